/- Part 10 of the proof of RegionStale: lemmas, each with its conditions ahead of it. -/
import Derived.Test.YtdhcmnbajkpjiaaPartRegionStale9
import Derived.Test.YtdhcmnbajkpjiaaPartRegionStale1
import Derived.WalkKit
import Derived.Outline
import Derived.Below
import Derived.Lib.Hide
import Derived.Laws.Bits64b
import Derived.Laws.BitsAllLaws
import Derived.Laws.BitsLemmas
import Derived.Test.YtdhcmnbajkpjiaaPartRegionStale8
import Derived.Test.YtdhcmnbajkpjiaaPartRegionStale2
/-
  Layer 39 (page): own; Last, and the reference's.
-/
namespace Go.Proofs.Ytdhcmnbajkpjiaa
open Go.RowKit
set_option linter.unusedVariables false
set_option linter.unusedSimpArgs false
attribute [local go_sem] drewN_alloc drewN_setCell

theorem heap_lastAt (w : World) (o : Obj) (k : Nat) (hk : w.heap.size = k) : (w.alloc o).heap[k]? = some o := by subst hk; exact (MapKept.heap_alloc w o).1
theorem copy_ints {w : World} {A : Option Addr} {g n c : Nat} {xs : List Int} (Z : Array Value) (hg : w.heap[g]? = some (.cells Z 3 (0, 0))) (hZ : Z.size = n) (h : IntsAt w A n xs) (ty : TypeId) :
    ∃ w', (Builtin.copy_ #[27, 27] ty #[.slice (some ⟨g, 0, none⟩) n n, .slice A n c]).run Try.prog w = .ok (goInt n) w' ∧ w'.heap[g]? = some (.cells (cellsI xs).toArray 3 (0, 0)) ∧ Below g w w' := by
  have hl : (cellsI xs).length = n := by simp [cellsI, h.1]
  by_cases h0 : n = 0
  · subst h0
    obtain rfl := List.eq_nil_of_length_eq_zero h.1
    obtain rfl := Array.eq_empty_of_size_eq_zero hZ
    exact ⟨w, run_copy_none (P := Try.prog) w _ _ ty 3 _ _ 0 0 0 c Try.underlying27 sizeInt rfl, hg, Below.refl _ _⟩
  · obtain ⟨ad, rfl, hc⟩ := h.cells (by omega)
    have hr := run_copy_row (P := Try.prog) w 27 27 ty 3 g 0 n n ad n c Z 3 (cellsI xs) Try.underlying27 sizeInt hg (by rw [hl]; exact (Nat.min_self n).symm) hc (by omega) (cellsI_one' xs)
    rw [hl] at hr
    refine ⟨_, hr, ?_, below_setRow (Below.refl _ _) (Nat.le_refl _) _⟩
    rw [setRow_heap w g _ _ 3 _ hg]
    simp [← hZ]
/-- Pages of the call's own. -/
def GivesP (w : World) (l : List Int) (cur : Int) (e : Ending) (w' : World) : Prop := ∃ v, e = .returned (.agg #[v, .int .i64 cur]) ∧ OwnI w.heap.size w' v l ∧ Below w.heap.size w w'

set_option maxRecDepth 100000 in
set_option maxHeartbeats 2000000 in
theorem page_own {A : Option Addr} {n : Nat} {xs : List Int} (c : Nat) (cur : Int) {w : World} (h : IntsAt w A n xs) (hn : n ≤ 100000) :
    Calls Try.prog 159 #[.agg #[.slice A n c, .int .i64 cur]] w (GivesP w xs cur) := by
  have hinfo : (Try.prog.info? 3).map (fun i => (i.zero, i.size, i.bytes)) = some (some (.int .i64 0), 1, 8) := by kernel_rfl
  have hmk := run_make_row' (P := Try.prog) 27 3 (.int .i64 0) 8 Try.underlying27 hinfo rfl .i64 .i64 n (by omega) (by omega)
  obtain ⟨Z, hZ⟩ : ∃ Z, madeCells #[Value.int .i64 0] n = Z := ⟨_, rfl⟩
  rw [hZ] at hmk
  have hZ' : Z.size = n := by rw [← hZ]; simp [madeCells]
  obtain ⟨w2, hcp, hg2, hb2⟩ := copy_ints (w := ((w.alloc (.cells #[.slice A n c, .int .i64 cur] 153)).alloc (.cells #[.slice none 0 0, .int .i64 0] 153)).alloc (.cells Z 3)) (g := w.heap.size + 1 + 1) (c := c) Z (heap_lastAt _ _ _ (by simp)) hZ' (h.keep (by exact (by repeat (first | exact Below.refl _ _ | assumption | refine bel_drew ?_ | refine bel_drewN ?_ _ | refine bel_alloc ?_ _ | refine bel_set ?_ (by first | (dsimp only; omega) | (simp; done) | (simp; omega)) _ | refine bel_trans ?_ (by assumption))))) 3
  have HX := Lib.hid h.1
  replace hg2 := Lib.hid hg2
  have a1 : w2.cell? ⟨w.heap.size, 1, none⟩ = some (.int .i64 cur) := (hb2.cell (by dsimp only; omega)).trans (by simp [go_sem])
  have a2 : w2.cell? ⟨w.heap.size + 1, 0, none⟩ = some (.slice none 0 0) := (hb2.cell (by dsimp only; omega)).trans (by simp [go_sem])
  have a3 : w2.cell? ⟨w.heap.size + 1, 1, none⟩ = some (.int .i64 0) := (hb2.cell (by dsimp only; omega)).trans (by simp [go_sem])
  have f2 : w2.frozen? ⟨w.heap.size + 1, 0, none⟩ = false := (hb2.frozen (by dsimp only; omega)).trans (by simp [go_sem])
  have f3 : w2.frozen? ⟨w.heap.size + 1, 1, none⟩ = false := (hb2.frozen (by dsimp only; omega)).trans (by simp [go_sem])
  have B2 := bel_trans' (show Below w.heap.size w _ from (by repeat (first | exact Below.refl _ _ | assumption | refine bel_drew ?_ | refine bel_drewN ?_ _ | refine bel_alloc ?_ _ | refine bel_set ?_ (by first | (dsimp only; omega) | (simp; done) | (simp; omega)) _ | refine bel_trans ?_ (by assumption)))) hb2 (by omega)
  clear hinfo h hZ hZ'
  go_enter Try.func159, Try.ntmps159
  go_wp2
  have g2 : ∀ v u, ((w2.setCell ⟨w.heap.size + 1, 0, none⟩ v).setCell ⟨w.heap.size + 1, 1, none⟩ u).cell? ⟨w.heap.size + 1, 1, none⟩ = some u := fun v u => World.cell?_setCell_same _ _ _ ((World.cell?_setCell_other _ _ _ _ (by simp)).trans a3)
  have g3 : ∀ v, (w2.setCell ⟨w.heap.size + 1, 0, none⟩ v).cell? ⟨w.heap.size + 1, 0, none⟩ = some v := fun v => World.cell?_setCell_same _ _ _ a2
  refine bodyPost_ret (v := .agg #[.slice (some ⟨w.heap.size + 1 + 1, 0, none⟩) n n, .int .i64 cur]) (by simp [results, Try.results159, go_sem, g2, g3]) rfl ⟨_, rfl, OwnI.of_row (g := w.heap.size + 1 + 1) (by omega) ?_ HX.out.symm hn, ?_⟩
  · rw [Below.heap_setCell _ _ _ _ (by dsimp only; omega), Below.heap_setCell _ _ _ _ (by dsimp only; omega)]; exact hg2.out
  · exact (by repeat (first | exact Below.refl _ _ | assumption | refine bel_drew ?_ | refine bel_drewN ?_ _ | refine bel_alloc ?_ _ | refine bel_set ?_ (by first | (dsimp only; omega) | (simp; done) | (simp; omega)) _ | refine bel_trans ?_ (by assumption)))
end Go.Proofs.Ytdhcmnbajkpjiaa
/-
  Layer 39 (page): Last, and the reference's.
-/
namespace Go.Proofs.Ytdhcmnbajkpjiaa
open Go.RowKit
set_option linter.unusedVariables false
set_option linter.unusedSimpArgs false
attribute [local go_sem] drewN_alloc drewN_setCell

set_option maxRecDepth 100000 in
set_option maxHeartbeats 4000000 in
theorem page_Last {A : Option Addr} {n : Nat} {xs : List Int} (c : Nat) (cur : Int) {w : World} (h : IntsAt w A n xs) (hn : n ≤ 100000) :
    Calls Try.prog 158 #[.agg #[.slice A n c, .int .i64 cur]] w fun e w' => e = .returned (.int .i64 (PG.last xs cur)) ∧ Below w.heap.size w w' := by
  have K := page_Right c cur (h.keep (bel_alloc (Below.refl _ _) (.cells #[.slice A n c, .int .i64 cur] 153))) hn
  rcases hr : PG.right xs cur with _ | _
  · rw [hr] at K
    have e : PG.last xs cur = -1 := by unfold PG.last; rw [hr]; rfl
    rw [e]
    replace K := Lib.hid K
    clear h hr e
    go_enter Try.func158, Try.ntmps158
    go_wp2_with fail
    refine K.out.mono ?_
    rintro e w5 ⟨rfl, h5⟩
    go_wp2_with fail
    go_ret
    exact ⟨rfl, (by repeat (first | exact Below.refl _ _ | assumption | refine bel_drew ?_ | refine bel_drewN ?_ _ | refine bel_alloc ?_ _ | refine bel_set ?_ (by first | (dsimp only; omega) | (simp; done) | (simp; omega)) _ | refine bel_trans ?_ (by assumption)))⟩
  · rw [hr] at K
    replace K := Lib.hid K
    by_cases h0 : n = 0
    · subst h0
      have e : PG.last xs cur = -1 := by unfold PG.last; rw [hr, List.eq_nil_of_length_eq_zero h.1]; rfl
      rw [e]
      clear h hr e
      go_enter Try.func158, Try.ntmps158
      go_wp2_with fail
      refine K.out.mono ?_
      rintro e w5 ⟨rfl, h5⟩
      have z5 : w.heap.size < w5.heap.size := by have := h5.size; simp at this; omega
      have q0 := cell_after (a := ⟨w.heap.size, 0, none⟩) (v := .slice A 0 c) h5 (by simp) (by simp [go_sem])
      go_wp2_with fail
      go_ret
      exact ⟨rfl, (by repeat (first | exact Below.refl _ _ | assumption | refine bel_drew ?_ | refine bel_drewN ?_ _ | refine bel_alloc ?_ _ | refine bel_set ?_ (by first | (dsimp only; omega) | (simp; done) | (simp; omega)) _ | refine bel_trans ?_ (by assumption)))⟩
    · obtain ⟨m, rfl⟩ : ∃ m, n = m + 1 := ⟨n - 1, by omega⟩
      obtain ⟨b, off, rfl, hb, hc⟩ := h.2.2 (by omega)
      have e : PG.last xs cur = xs.getD m 0 := by
        unfold PG.last
        have hx : xs ≠ [] := by rintro rfl; have := h.1; simp at this
        rw [hr, decide_eq_true hx, h.1]; rfl
      rw [e]
      have x0 := hc m (by omega)
      have hm := h.2.1
      obtain ⟨y, hy⟩ : ∃ y, xs.getD m 0 = y := ⟨_, rfl⟩
      rw [hy] at x0 ⊢
      have j0 : ((m : Int) + 1 == 0) = false := by simp; omega
      have j1 : IntKind.i64.wrap (((m : Int) + 1) - 1) = m := by rw [IntKind.wrap_i64]; omega
      have j2 : (m : Int) < (m : Int) + 1 := by omega
      clear h hr e hc hy
      go_enter Try.func158, Try.ntmps158
      go_wp2_with fail
      refine K.out.mono ?_
      rintro e w5 ⟨rfl, h5⟩
      have q0 := cell_after (a := ⟨w.heap.size, 0, none⟩) (v := .slice (some ⟨b, off, none⟩) (m + 1) c) h5 (by simp) (by simp [go_sem])
      have x5 := cell_after (a := ⟨b, off + m, none⟩) (v := .int .i64 y) h5 (by simp; omega) (cell_alloc _ hb x0)
      go_wp2_with fail
      go_ret
      exact ⟨rfl, (by repeat (first | exact Below.refl _ _ | assumption | refine bel_drew ?_ | refine bel_drewN ?_ _ | refine bel_alloc ?_ _ | refine bel_set ?_ (by first | (dsimp only; omega) | (simp; done) | (simp; omega)) _ | refine bel_trans ?_ (by assumption)))⟩

end Go.Proofs.Ytdhcmnbajkpjiaa
/-
  The contracts of math/bits.OnesCount and of num.Power and its reference.
-/
-- not imported: Prog
namespace Go.Proofs.Ytdhcmnbajkpjiaa
open Go.RowKit
set_option linter.unusedVariables false

theorem u64n (a : Nat) (ha : a < 18446744073709551616) : IntKind.u64.wrap (a : Int) = (a : Int) := by rw [IntKind.wrap_u64]; omega
theorem i64_127 (a : Nat) (ha : a < 9223372036854775808) : bits .and .i64 (a : Int) 127 = ((a % 128 : Nat) : Int) := by
  have hb : (BitVec.ofInt 64 (a : Int)).toNat = a := by rw [BitVec.ofInt_natCast, BitVec.toNat_ofNat]; exact Nat.mod_eq_of_lt (by omega)
  have hc : (BitVec.ofInt 64 (127 : Int)).toNat = 127 := by decide +kernel
  have e : a &&& 127 = a % 128 := Nat.and_two_pow_sub_one_eq_mod a 7
  show IntKind.i64.wrap ((BitVec.ofInt 64 (a : Int) &&& BitVec.ofInt 64 (127 : Int)).toNat : Int) = _
  rw [BitVec.toNat_and, hb, hc, e, IntKind.wrap_i64]
  omega

theorem swar_steps (x : Nat) (hx : x < 18446744073709551616) : ∃ A B X1 C D X2 Y X3 X4 X5 X6 : Nat,
    bits .and .u64 ((x : Int) / 2) 6148914691236517205 = (A : Int) ∧ bits .and .u64 (x : Int) 6148914691236517205 = (B : Int) ∧ IntKind.u64.wrap ((A : Int) + (B : Int)) = (X1 : Int) ∧
    bits .and .u64 ((X1 : Int) / 4) 3689348814741910323 = (C : Int) ∧ bits .and .u64 (X1 : Int) 3689348814741910323 = (D : Int) ∧ IntKind.u64.wrap ((C : Int) + (D : Int)) = (X2 : Int) ∧
    IntKind.u64.wrap ((X2 : Int) / 16 + (X2 : Int)) = (Y : Int) ∧ bits .and .u64 (Y : Int) 1085102592571150095 = (X3 : Int) ∧
    IntKind.u64.wrap ((X3 : Int) + (X3 : Int) / 256) = (X4 : Int) ∧ IntKind.u64.wrap ((X4 : Int) + (X4 : Int) / 65536) = (X5 : Int) ∧ IntKind.u64.wrap ((X5 : Int) + (X5 : Int) / 4294967296) = (X6 : Int) ∧
    (X6 : Int) ≤ 9223372036854775807 ∧ bits .and .i64 (X6 : Int) 127 = (PN.pop x : Int) := by
  have hA : (x / 2 &&& PN.m0) ≤ PN.m0 := Nat.and_le_right
  have hB : (x &&& PN.m0) ≤ PN.m0 := Nat.and_le_right
  have q0 : PN.m0 = 6148914691236517205 := rfl
  have q1 : PN.m1 = 3689348814741910323 := rfl
  have q2 : PN.m2 = 1085102592571150095 := rfl
  have hs := PN.swar_pop x hx
  unfold PN.swar at hs
  have a1 := bits_and_u64_nat (x / 2) 6148914691236517205 (by omega) (by omega)
  have a2 := bits_and_u64_nat x 6148914691236517205 hx (by omega)
  rw [← q0] at a1 a2
  generalize hA' : (x / 2 &&& PN.m0) = A at *
  generalize hB' : (x &&& PN.m0) = B at *
  have hC : ((A + B) / 4 &&& PN.m1) ≤ PN.m1 := Nat.and_le_right
  have hD : ((A + B) &&& PN.m1) ≤ PN.m1 := Nat.and_le_right
  have a3 := bits_and_u64_nat ((A + B) / 4) 3689348814741910323 (by omega) (by omega)
  have a4 := bits_and_u64_nat (A + B) 3689348814741910323 (by omega) (by omega)
  rw [← q1] at a3 a4
  generalize hC' : ((A + B) / 4 &&& PN.m1) = C at *
  generalize hD' : ((A + B) &&& PN.m1) = D at *
  have hE : (((C + D) / 16 + (C + D)) &&& PN.m2) ≤ PN.m2 := Nat.and_le_right
  have a5 := bits_and_u64_nat ((C + D) / 16 + (C + D)) 1085102592571150095 (by omega) (by omega)
  rw [← q2] at a5
  generalize hE' : (((C + D) / 16 + (C + D)) &&& PN.m2) = E at *
  have e1 : ((x : Int) / 2) = ((x / 2 : Nat) : Int) := by omega
  have e2 : (((A + B : Nat) : Int) / 4) = (((A + B) / 4 : Nat) : Int) := by omega
  refine ⟨A, B, A + B, C, D, C + D, (C + D) / 16 + (C + D), E, E + E / 256, (E + E / 256) + (E + E / 256) / 65536, ((E + E / 256) + (E + E / 256) / 65536) + ((E + E / 256) + (E + E / 256) / 65536) / 4294967296, ?_, ?_, ?_, ?_, ?_, ?_, ?_, ?_, ?_, ?_, ?_, ?_, ?_⟩
  · rw [e1]; exact a1
  · exact a2
  · rw [IntKind.wrap_u64]; omega
  · rw [e2]; exact a3
  · exact a4
  · rw [IntKind.wrap_u64]; omega
  · rw [IntKind.wrap_u64]; omega
  · exact a5
  · rw [IntKind.wrap_u64]; omega
  · rw [IntKind.wrap_u64]; omega
  · rw [IntKind.wrap_u64]; omega
  · omega
  · dsimp only at hs
    rw [hC', hD', hE'] at hs
    rw [i64_127 _ (by omega), hs]

theorem bits_OnesCount64 (x : Nat) (hx : x < 18446744073709551616) (w : World) :
    Calls Try.prog 168 #[.int .u64 (x : Int)] w fun e w' => e = .returned (.int .i64 (PN.pop x : Int)) ∧ w = w' := by
  obtain ⟨A, B, X1, C, D, X2, Y, X3, X4, X5, X6, r1, r2, r3, r4, r5, r6, r7, r8, r9, r10, r11, r12, r13⟩ := swar_steps x hx
  generalize PN.pop x = p at *
  go_enter Try.func168, Try.ntmps168
  go_wp2
  go_ret
  exact ⟨rfl, rfl⟩

theorem bits_OnesCount (x : Nat) (hx : x < 18446744073709551616) (w : World) :
    Calls Try.prog 166 #[.int .u64 (x : Int)] w fun e w' => e = .returned (.int .i64 (PN.pop x : Int)) ∧ w = w' := by
  generalize hp : PN.pop x = p
  have c := fun W => bits_OnesCount64 x hx W
  rw [hp] at c
  have C := Lib.hid c
  clear c hp
  go_enter Try.func166, Try.ntmps166
  go_wp2_with fail
  refine (C.out _).mono ?_
  rintro e w1 ⟨rfl, rfl⟩
  go_wp2_with fail
  go_ret
  exact ⟨rfl, rfl⟩
end Go.Proofs.Ytdhcmnbajkpjiaa
/-
  Contracts of num.Add, num.Sub, and of the references' Add, Sub.
-/
-- not imported: Prog
namespace Go.Proofs.Ytdhcmnbajkpjiaa
open Go.RowKit

theorem num_Add (a b : Int) (w : World) (ha : -9223372036854775808 ≤ a ∧ a ≤ 9223372036854775807) (hb : -9223372036854775808 ≤ b ∧ b ≤ 9223372036854775807) :
    Calls Try.prog 165 #[.int .i64 a, .int .i64 b] w fun e w' => e = .returned (.tuple #[.int .i64 (PN.add a b).1, .bool (PN.add a b).2]) ∧ w = w' := by
  obtain ⟨ha1, ha2⟩ := ha
  obtain ⟨hb1, hb2⟩ := hb
  by_cases hf : PN.fits (a + b) = true
  · have hr := PN.add_yes hf
    have HR := Lib.hid hr
    obtain ⟨h1, h2⟩ := (PN.fits_iff _).1 hf
    clear hr hf
    go_enter Try.func165, Try.ntmps165
    go_wp2
    all_goals (go_ret2; exact ⟨by rw [HR.out]; rfl, rfl⟩)
  · have hf' : PN.fits (a + b) = false := by simpa using hf
    have hr := PN.add_no hf'
    have HR := Lib.hid hr
    have h1 := (PN.fits_not _).1 hf'
    clear hr hf hf'
    rcases h1 with h1 | h1
    · have h2 : 0 ≤ wrap64 (a + b) := by unfold wrap64; omega
      have h3 : a < 0 := by omega
      have h4 : b < 0 := by omega
      go_enter Try.func165, Try.ntmps165
      go_wp2
      all_goals (go_ret2; exact ⟨by rw [HR.out]; rfl, rfl⟩)
    · have h2 : wrap64 (a + b) < 0 := by unfold wrap64; omega
      have h3 : 0 ≤ a := by omega
      have h4 : 0 ≤ b := by omega
      go_enter Try.func165, Try.ntmps165
      go_wp2
      all_goals (go_ret2; exact ⟨by rw [HR.out]; rfl, rfl⟩)
end Go.Proofs.Ytdhcmnbajkpjiaa
/-
  The contracts of num.Power, num.Align, and of the references' Power, Add, Align.
-/
namespace Go.Proofs.Ytdhcmnbajkpjiaa
open Go.RowKit
set_option linter.unusedVariables false

theorem num_Power (n : Int) (w : World) (hn : -9223372036854775808 ≤ n ∧ n ≤ 9223372036854775807) :
    Calls Try.prog 163 #[.int .i64 n] w fun e w' => e = .returned (.bool (PN.power n)) ∧ w = w' := by
  by_cases h : 0 < n
  · obtain ⟨x, rfl⟩ := Int.eq_ofNat_of_zero_le (show 0 ≤ n by omega)
    have hv : PN.power (x : Int) = ((PN.pop x : Int) == 1) := by
      unfold PN.power
      rw [Bool.eq_iff_iff]
      simp only [Bool.and_eq_true, decide_eq_true_eq, beq_iff_eq, Int.toNat_natCast]
      omega
    rw [hv]
    have c := fun W => bits_OnesCount x (by omega) W
    generalize PN.pop x = p at *
    have C := Lib.hid c
    clear c hv
    go_enter Try.func163, Try.ntmps163
    go_wp2_with fail
    refine (C.out _).mono ?_
    rintro e w1 ⟨rfl, rfl⟩
    go_wp2_with fail
    go_ret
    exact ⟨rfl, rfl⟩
  · have hv : PN.power n = false := by unfold PN.power; simp; omega
    rw [hv]
    clear hv
    go_enter Try.func163, Try.ntmps163
    go_wp2
    go_ret
    exact ⟨rfl, rfl⟩

/-- What holds at the head of the reference's loop. -/
def PowRel (n : Nat) (i : Value) : Prop := ∃ m : Nat, 0 < m ∧ m ≤ 9223372036854775807 ∧ i = .int .i64 m ∧ PN.pop m = PN.pop n

theorem num_Align (n b : Int) (w : World) (hn : -9223372036854775808 ≤ n ∧ n ≤ 9223372036854775807) (hb : -9223372036854775808 ≤ b ∧ b ≤ 9223372036854775807) :
    Calls Try.prog 164 #[.int .i64 n, .int .i64 b] w fun e w' => e = .returned (.tuple #[.int .i64 (PN.align n b).1, .bool (PN.align n b).2]) ∧ w = w' := by
  by_cases h : n < 0
  · rw [PN.align_bad (Or.inl h)]
    go_enter Try.func164, Try.ntmps164
    go_wp2
    go_ret2
    exact ⟨rfl, rfl⟩
  · have h0 : 0 ≤ n := by omega
    cases hp : PN.power b
    · rw [PN.align_bad (Or.inr hp)]
      clear h
      go_enter Try.func164, Try.ntmps164
      go_wp2_with fail
      refine (num_Power b _ hb).mono ?_
      rintro e w1 ⟨rfl, rfl⟩
      go_wp2_with fail
      go_ret2
      exact ⟨rfl, rfl⟩
    · have hb0 := PN.power_pos hp
      rw [PN.align_val h0 hp]
      obtain ⟨u1, u2, u3, u4⟩ := PN.up_bd h0 hb0
      have m0 : 0 ≤ (n + b - 1) % b := Int.emod_nonneg _ (by omega)
      have m1 : (n + b - 1) % b < b := Int.emod_lt_of_pos _ hb0
      have x1 : IntKind.u64.wrap n = n := by rw [IntKind.wrap_u64]; omega
      have x2 : IntKind.u64.wrap b = b := by rw [IntKind.wrap_u64]; omega
      have x3 : IntKind.u64.wrap (n + b) = n + b := by rw [IntKind.wrap_u64]; omega
      have x4 : IntKind.u64.wrap (n + b - 1) = n + b - 1 := by rw [IntKind.wrap_u64]; omega
      have x5 : IntKind.u64.wrap ((n + b - 1) - (n + b - 1) % b) = PN.up n b := by unfold PN.up; rw [IntKind.wrap_u64]; omega
      have x6 : (n + b - 1).tmod b = (n + b - 1) % b := Int.tmod_eq_emod_of_nonneg (by omega)
      generalize PN.up n b = U at *
      by_cases hU : U ≤ 9223372036854775807
      · rw [if_pos hU]
        clear u3 h
        go_enter Try.func164, Try.ntmps164
        go_wp2_with fail
        refine (num_Power b _ hb).mono ?_
        rintro e w1 ⟨rfl, rfl⟩
        go_wp2_with fail
        go_ret2
        exact ⟨rfl, rfl⟩
      · rw [if_neg hU]
        have hU' : 9223372036854775807 < U := by omega
        clear u3 h hU
        go_enter Try.func164, Try.ntmps164
        go_wp2_with fail
        refine (num_Power b _ hb).mono ?_
        rintro e w1 ⟨rfl, rfl⟩
        go_wp2_with fail
        go_ret2
        exact ⟨rfl, rfl⟩

end Go.Proofs.Ytdhcmnbajkpjiaa
/-
  The contracts of bump.Place, bump.Waste and the reference's.
-/
namespace Go.Proofs.Ytdhcmnbajkpjiaa
open Go.RowKit
set_option linter.unusedVariables false

theorem bump_Place_A (c s a k : Int) (w : World) (bc : -9223372036854775808 ≤ c ∧ c ≤ 9223372036854775807) (bs : -9223372036854775808 ≤ s ∧ s ≤ 9223372036854775807) (ba : -9223372036854775808 ≤ a ∧ a ≤ 9223372036854775807) (bk : -9223372036854775808 ≤ k ∧ k ≤ 9223372036854775807) (h1 : c < 0) :
    Calls Try.prog 157 #[.int .i64 c, .int .i64 s, .int .i64 a, .int .i64 k] w fun e w' => e = .returned (.tuple #[.int .i64 (PB.place c s a k).1, .int .i64 (PB.place c s a k).2.1, .int .i64 (PB.place c s a k).2.2]) ∧ w = w' := by
  rw [PB.place_arg (Or.inl h1)]
  go_enter Try.func157, Try.ntmps157
  go_wp2
  refine wp_scope_ahead 0 (by rfl) ?_
  go_wp2_with fail
  go_step3
  refine ⟨rfl, ?_⟩
  go_wp2_with fail
  simp only [Exit.jump]
  go_ret3
  exact ⟨rfl, rfl⟩

theorem bump_Place_B (c s a k : Int) (w : World) (bc : -9223372036854775808 ≤ c ∧ c ≤ 9223372036854775807) (bs : -9223372036854775808 ≤ s ∧ s ≤ 9223372036854775807) (ba : -9223372036854775808 ≤ a ∧ a ≤ 9223372036854775807) (bk : -9223372036854775808 ≤ k ∧ k ≤ 9223372036854775807) (h1 : 0 ≤ c) (h2 : s < 1) :
    Calls Try.prog 157 #[.int .i64 c, .int .i64 s, .int .i64 a, .int .i64 k] w fun e w' => e = .returned (.tuple #[.int .i64 (PB.place c s a k).1, .int .i64 (PB.place c s a k).2.1, .int .i64 (PB.place c s a k).2.2]) ∧ w = w' := by
  rw [PB.place_arg (Or.inr (Or.inl h2))]
  go_enter Try.func157, Try.ntmps157
  go_wp2
  refine wp_scope_ahead 0 (by rfl) ?_
  go_wp2_with fail
  go_step3
  refine ⟨rfl, ?_⟩
  go_wp2_with fail
  simp only [Exit.jump]
  go_ret3
  exact ⟨rfl, rfl⟩

theorem bump_Place_C (c s a k : Int) (w : World) (bc : -9223372036854775808 ≤ c ∧ c ≤ 9223372036854775807) (bs : -9223372036854775808 ≤ s ∧ s ≤ 9223372036854775807) (ba : -9223372036854775808 ≤ a ∧ a ≤ 9223372036854775807) (bk : -9223372036854775808 ≤ k ∧ k ≤ 9223372036854775807) (h1 : 0 ≤ c) (h2 : 1 ≤ s) (h3 : k < 1) :
    Calls Try.prog 157 #[.int .i64 c, .int .i64 s, .int .i64 a, .int .i64 k] w fun e w' => e = .returned (.tuple #[.int .i64 (PB.place c s a k).1, .int .i64 (PB.place c s a k).2.1, .int .i64 (PB.place c s a k).2.2]) ∧ w = w' := by
  rw [PB.place_arg (Or.inr (Or.inr (Or.inl h3)))]
  go_enter Try.func157, Try.ntmps157
  go_wp2
  refine wp_scope_ahead 0 (by rfl) ?_
  go_wp2_with fail
  go_step3
  refine ⟨rfl, ?_⟩
  go_wp2_with fail
  simp only [Exit.jump]
  go_ret3
  exact ⟨rfl, rfl⟩

theorem bump_Place_D (c s a k : Int) (w : World) (bc : -9223372036854775808 ≤ c ∧ c ≤ 9223372036854775807) (bs : -9223372036854775808 ≤ s ∧ s ≤ 9223372036854775807) (ba : -9223372036854775808 ≤ a ∧ a ≤ 9223372036854775807) (bk : -9223372036854775808 ≤ k ∧ k ≤ 9223372036854775807) (h1 : 0 ≤ c) (h2 : 1 ≤ s) (h3 : 1 ≤ k) (hp : PN.power a = false) :
    Calls Try.prog 157 #[.int .i64 c, .int .i64 s, .int .i64 a, .int .i64 k] w fun e w' => e = .returned (.tuple #[.int .i64 (PB.place c s a k).1, .int .i64 (PB.place c s a k).2.1, .int .i64 (PB.place c s a k).2.2]) ∧ w = w' := by
  rw [PB.place_arg (Or.inr (Or.inr (Or.inr hp)))]
  have c1 := fun W => num_Power a W ba
  rw [hp] at c1
  have C1 := Lib.hid c1
  clear c1
  clear hp
  go_enter Try.func157, Try.ntmps157
  go_wp2
  refine wp_scope_ahead 0 (by rfl) ?_
  go_wp2_with fail
  refine (C1.out _).mono ?_
  rintro e w1 ⟨rfl, rfl⟩
  go_wp2_with fail
  go_step3
  refine ⟨rfl, ?_⟩
  go_wp2_with fail
  simp only [Exit.jump]
  go_ret3
  exact ⟨rfl, rfl⟩

theorem bump_Place_E (c s a k : Int) (w : World) (bc : -9223372036854775808 ≤ c ∧ c ≤ 9223372036854775807) (bs : -9223372036854775808 ≤ s ∧ s ≤ 9223372036854775807) (ba : -9223372036854775808 ≤ a ∧ a ≤ 9223372036854775807) (bk : -9223372036854775808 ≤ k ∧ k ≤ 9223372036854775807) (h1 : 0 ≤ c) (h2 : 1 ≤ s) (h3 : 1 ≤ k) (hp : PN.power a = true) (h4 : k < s) :
    Calls Try.prog 157 #[.int .i64 c, .int .i64 s, .int .i64 a, .int .i64 k] w fun e w' => e = .returned (.tuple #[.int .i64 (PB.place c s a k).1, .int .i64 (PB.place c s a k).2.1, .int .i64 (PB.place c s a k).2.2]) ∧ w = w' := by
  rw [PB.place_size (by rintro (h | h | h | h) <;> first | omega | (rw [hp] at h; cases h)) (Or.inl h4)]
  have c1 := fun W => num_Power a W ba
  rw [hp] at c1
  have C1 := Lib.hid c1
  clear c1
  clear hp
  go_enter Try.func157, Try.ntmps157
  go_wp2
  refine wp_scope_ahead 0 (by rfl) ?_
  go_wp2_with fail
  refine (C1.out _).mono ?_
  rintro e w1 ⟨rfl, rfl⟩
  go_wp2_with fail
  go_step3
  refine ⟨rfl, ?_⟩
  go_wp2_with fail
  simp only [Exit.jump]
  go_ret3
  exact ⟨rfl, rfl⟩

theorem bump_Place_F (c s a k : Int) (w : World) (bc : -9223372036854775808 ≤ c ∧ c ≤ 9223372036854775807) (bs : -9223372036854775808 ≤ s ∧ s ≤ 9223372036854775807) (ba : -9223372036854775808 ≤ a ∧ a ≤ 9223372036854775807) (bk : -9223372036854775808 ≤ k ∧ k ≤ 9223372036854775807) (h1 : 0 ≤ c) (h2 : 1 ≤ s) (h3 : 1 ≤ k) (hp : PN.power a = true) (h4 : s ≤ k) (h5 : k < a) :
    Calls Try.prog 157 #[.int .i64 c, .int .i64 s, .int .i64 a, .int .i64 k] w fun e w' => e = .returned (.tuple #[.int .i64 (PB.place c s a k).1, .int .i64 (PB.place c s a k).2.1, .int .i64 (PB.place c s a k).2.2]) ∧ w = w' := by
  rw [PB.place_size (by rintro (h | h | h | h) <;> first | omega | (rw [hp] at h; cases h)) (Or.inr h5)]
  have c1 := fun W => num_Power a W ba
  rw [hp] at c1
  have C1 := Lib.hid c1
  clear c1
  clear hp
  go_enter Try.func157, Try.ntmps157
  go_wp2
  refine wp_scope_ahead 0 (by rfl) ?_
  go_wp2_with fail
  refine (C1.out _).mono ?_
  rintro e w1 ⟨rfl, rfl⟩
  go_wp2_with fail
  go_step3
  refine ⟨rfl, ?_⟩
  go_wp2_with fail
  simp only [Exit.jump]
  go_ret3
  exact ⟨rfl, rfl⟩

theorem bump_Place_G (c s a k : Int) (w : World) (bc : -9223372036854775808 ≤ c ∧ c ≤ 9223372036854775807) (bs : -9223372036854775808 ≤ s ∧ s ≤ 9223372036854775807) (ba : -9223372036854775808 ≤ a ∧ a ≤ 9223372036854775807) (bk : -9223372036854775808 ≤ k ∧ k ≤ 9223372036854775807) (h1 : 0 ≤ c) (h2 : 1 ≤ s) (h3 : 1 ≤ k) (hp : PN.power a = true) (h4 : s ≤ k) (h5 : a ≤ k) (h6 : 9223372036854775807 < PN.up c a) :
    Calls Try.prog 157 #[.int .i64 c, .int .i64 s, .int .i64 a, .int .i64 k] w fun e w' => e = .returned (.tuple #[.int .i64 (PB.place c s a k).1, .int .i64 (PB.place c s a k).2.1, .int .i64 (PB.place c s a k).2.2]) ∧ w = w' := by
  rw [PB.place_over (by rintro (h | h | h | h) <;> first | omega | (rw [hp] at h; cases h)) (by omega) (by omega)]
  have c1 := fun W => num_Power a W ba
  rw [hp] at c1
  have C1 := Lib.hid c1
  clear c1
  have c2 := fun W => num_Align c a W bc ba
  rw [PN.align_val h1 hp, if_neg (by omega)] at c2
  have ub := PN.up_bd h1 (PN.power_pos hp)
  obtain ⟨u1, u2, u3, u4⟩ := ub
  clear u3
  generalize PN.up c a = U at *
  have C2 := Lib.hid c2
  clear c2
  clear hp
  go_enter Try.func157, Try.ntmps157
  go_wp2
  refine wp_scope_ahead 0 (by rfl) ?_
  go_wp2_with fail
  refine (C1.out _).mono ?_
  rintro e w1 ⟨rfl, rfl⟩
  go_wp2_with fail
  refine (C2.out _).mono ?_
  rintro e w1 ⟨rfl, rfl⟩
  go_wp2_with fail
  go_step3
  refine ⟨rfl, ?_⟩
  go_wp2_with fail
  simp only [Exit.jump]
  go_ret3
  exact ⟨rfl, rfl⟩

theorem bump_Place_H (c s a k : Int) (w : World) (bc : -9223372036854775808 ≤ c ∧ c ≤ 9223372036854775807) (bs : -9223372036854775808 ≤ s ∧ s ≤ 9223372036854775807) (ba : -9223372036854775808 ≤ a ∧ a ≤ 9223372036854775807) (bk : -9223372036854775808 ≤ k ∧ k ≤ 9223372036854775807) (h1 : 0 ≤ c) (h2 : 1 ≤ s) (h3 : 1 ≤ k) (hp : PN.power a = true) (h4 : s ≤ k) (h5 : a ≤ k) (h6 : PN.up c a ≤ 9223372036854775807) (h7 : 9223372036854775807 < PN.up c a + s) :
    Calls Try.prog 157 #[.int .i64 c, .int .i64 s, .int .i64 a, .int .i64 k] w fun e w' => e = .returned (.tuple #[.int .i64 (PB.place c s a k).1, .int .i64 (PB.place c s a k).2.1, .int .i64 (PB.place c s a k).2.2]) ∧ w = w' := by
  rw [PB.place_over (by rintro (h | h | h | h) <;> first | omega | (rw [hp] at h; cases h)) (by omega) (by omega)]
  have c1 := fun W => num_Power a W ba
  rw [hp] at c1
  have C1 := Lib.hid c1
  clear c1
  have c2 := fun W => num_Align c a W bc ba
  rw [PN.align_val h1 hp, if_pos h6] at c2
  have ub := PN.up_bd h1 (PN.power_pos hp)
  have c3 := fun W => num_Add (PN.up c a) s W (by omega) bs
  rw [PN.add_no ((PN.fits_not _).2 (by omega))] at c3
  obtain ⟨u1, u2, u3, u4⟩ := ub
  clear u3
  generalize PN.up c a = U at *
  have C2 := Lib.hid c2
  clear c2
  have C3 := Lib.hid c3
  clear c3
  clear hp
  go_enter Try.func157, Try.ntmps157
  go_wp2
  refine wp_scope_ahead 0 (by rfl) ?_
  go_wp2_with fail
  refine (C1.out _).mono ?_
  rintro e w1 ⟨rfl, rfl⟩
  go_wp2_with fail
  refine (C2.out _).mono ?_
  rintro e w1 ⟨rfl, rfl⟩
  go_wp2_with fail
  refine (C3.out _).mono ?_
  rintro e w1 ⟨rfl, rfl⟩
  go_wp2_with fail
  go_step3
  refine ⟨rfl, ?_⟩
  go_wp2_with fail
  simp only [Exit.jump]
  go_ret3
  exact ⟨rfl, rfl⟩

theorem bump_Place_I (c s a k : Int) (w : World) (bc : -9223372036854775808 ≤ c ∧ c ≤ 9223372036854775807) (bs : -9223372036854775808 ≤ s ∧ s ≤ 9223372036854775807) (ba : -9223372036854775808 ≤ a ∧ a ≤ 9223372036854775807) (bk : -9223372036854775808 ≤ k ∧ k ≤ 9223372036854775807) (h1 : 0 ≤ c) (h2 : 1 ≤ s) (h3 : 1 ≤ k) (hp : PN.power a = true) (h4 : s ≤ k) (h5 : a ≤ k) (h6 : PN.up c a ≤ 9223372036854775807) (h7 : PN.up c a + s ≤ 9223372036854775807) (h8 : k < PN.up c a + s) :
    Calls Try.prog 157 #[.int .i64 c, .int .i64 s, .int .i64 a, .int .i64 k] w fun e w' => e = .returned (.tuple #[.int .i64 (PB.place c s a k).1, .int .i64 (PB.place c s a k).2.1, .int .i64 (PB.place c s a k).2.2]) ∧ w = w' := by
  rw [PB.place_dry (by rintro (h | h | h | h) <;> first | omega | (rw [hp] at h; cases h)) (by omega) (by omega) (by omega)]
  have c1 := fun W => num_Power a W ba
  rw [hp] at c1
  have C1 := Lib.hid c1
  clear c1
  have c2 := fun W => num_Align c a W bc ba
  rw [PN.align_val h1 hp, if_pos h6] at c2
  have ub := PN.up_bd h1 (PN.power_pos hp)
  have c3 := fun W => num_Add (PN.up c a) s W (by omega) bs
  rw [PN.add_yes ((PN.fits_iff _).2 (by omega))] at c3
  obtain ⟨u1, u2, u3, u4⟩ := ub
  clear u3
  generalize PN.up c a = U at *
  have C2 := Lib.hid c2
  clear c2
  have C3 := Lib.hid c3
  clear c3
  clear hp
  go_enter Try.func157, Try.ntmps157
  go_wp2
  refine wp_scope_ahead 0 (by rfl) ?_
  go_wp2_with fail
  refine (C1.out _).mono ?_
  rintro e w1 ⟨rfl, rfl⟩
  go_wp2_with fail
  refine (C2.out _).mono ?_
  rintro e w1 ⟨rfl, rfl⟩
  go_wp2_with fail
  refine (C3.out _).mono ?_
  rintro e w1 ⟨rfl, rfl⟩
  go_wp2_with fail
  go_step3
  refine ⟨rfl, ?_⟩
  go_wp2_with fail
  simp only [Exit.jump]
  go_ret3
  exact ⟨rfl, rfl⟩

theorem bump_Place_J (c s a k : Int) (w : World) (bc : -9223372036854775808 ≤ c ∧ c ≤ 9223372036854775807) (bs : -9223372036854775808 ≤ s ∧ s ≤ 9223372036854775807) (ba : -9223372036854775808 ≤ a ∧ a ≤ 9223372036854775807) (bk : -9223372036854775808 ≤ k ∧ k ≤ 9223372036854775807) (h1 : 0 ≤ c) (h2 : 1 ≤ s) (h3 : 1 ≤ k) (hp : PN.power a = true) (h4 : s ≤ k) (h5 : a ≤ k) (h6 : PN.up c a ≤ 9223372036854775807) (h7 : PN.up c a + s ≤ 9223372036854775807) (h8 : PN.up c a + s ≤ k) :
    Calls Try.prog 157 #[.int .i64 c, .int .i64 s, .int .i64 a, .int .i64 k] w fun e w' => e = .returned (.tuple #[.int .i64 (PB.place c s a k).1, .int .i64 (PB.place c s a k).2.1, .int .i64 (PB.place c s a k).2.2]) ∧ w = w' := by
  rw [PB.place_ok (by rintro (h | h | h | h) <;> first | omega | (rw [hp] at h; cases h)) (by omega) (by omega) (by omega)]
  have c1 := fun W => num_Power a W ba
  rw [hp] at c1
  have C1 := Lib.hid c1
  clear c1
  have c2 := fun W => num_Align c a W bc ba
  rw [PN.align_val h1 hp, if_pos h6] at c2
  have ub := PN.up_bd h1 (PN.power_pos hp)
  have c3 := fun W => num_Add (PN.up c a) s W (by omega) bs
  rw [PN.add_yes ((PN.fits_iff _).2 (by omega))] at c3
  obtain ⟨u1, u2, u3, u4⟩ := ub
  clear u3
  generalize PN.up c a = U at *
  have C2 := Lib.hid c2
  clear c2
  have C3 := Lib.hid c3
  clear c3
  clear hp
  go_enter Try.func157, Try.ntmps157
  go_wp2
  refine wp_scope_ahead 0 (by rfl) ?_
  go_wp2_with fail
  refine (C1.out _).mono ?_
  rintro e w1 ⟨rfl, rfl⟩
  go_wp2_with fail
  refine (C2.out _).mono ?_
  rintro e w1 ⟨rfl, rfl⟩
  go_wp2_with fail
  refine (C3.out _).mono ?_
  rintro e w1 ⟨rfl, rfl⟩
  go_wp2_with fail
  simp only [Exit.jump]
  go_ret3
  exact ⟨rfl, rfl⟩

theorem bump_Place (c s a k : Int) (w : World) (bc : -9223372036854775808 ≤ c ∧ c ≤ 9223372036854775807) (bs : -9223372036854775808 ≤ s ∧ s ≤ 9223372036854775807) (ba : -9223372036854775808 ≤ a ∧ a ≤ 9223372036854775807) (bk : -9223372036854775808 ≤ k ∧ k ≤ 9223372036854775807) :
    Calls Try.prog 157 #[.int .i64 c, .int .i64 s, .int .i64 a, .int .i64 k] w fun e w' => e = .returned (.tuple #[.int .i64 (PB.place c s a k).1, .int .i64 (PB.place c s a k).2.1, .int .i64 (PB.place c s a k).2.2]) ∧ w = w' := by
  by_cases h1 : c < 0
  · exact bump_Place_A c s a k w bc bs ba bk h1
  by_cases h2 : s < 1
  · exact bump_Place_B c s a k w bc bs ba bk (by omega) h2
  by_cases h3 : k < 1
  · exact bump_Place_C c s a k w bc bs ba bk (by omega) (by omega) h3
  cases hp : PN.power a
  · exact bump_Place_D c s a k w bc bs ba bk (by omega) (by omega) (by omega) hp
  by_cases h4 : k < s
  · exact bump_Place_E c s a k w bc bs ba bk (by omega) (by omega) (by omega) hp h4
  by_cases h5 : k < a
  · exact bump_Place_F c s a k w bc bs ba bk (by omega) (by omega) (by omega) hp (by omega) h5
  by_cases h6 : 9223372036854775807 < PN.up c a
  · exact bump_Place_G c s a k w bc bs ba bk (by omega) (by omega) (by omega) hp (by omega) (by omega) h6
  by_cases h7 : 9223372036854775807 < PN.up c a + s
  · exact bump_Place_H c s a k w bc bs ba bk (by omega) (by omega) (by omega) hp (by omega) (by omega) (by omega) h7
  by_cases h8 : k < PN.up c a + s
  · exact bump_Place_I c s a k w bc bs ba bk (by omega) (by omega) (by omega) hp (by omega) (by omega) (by omega) (by omega) h8
  · exact bump_Place_J c s a k w bc bs ba bk (by omega) (by omega) (by omega) hp (by omega) (by omega) (by omega) (by omega) (by omega)

end Go.Proofs.Ytdhcmnbajkpjiaa
/-
  Layer 39 (page): Lay.
-/
namespace Go.Proofs.Ytdhcmnbajkpjiaa
open Go.RowKit
set_option linter.unusedVariables false
set_option linter.unusedSimpArgs false
attribute [local go_sem] drewN_alloc drewN_setCell

/-- What Lay hands back. -/
def GivesLay (w : World) (r : List Int × Int × Int × Int × Int) (e : Ending) (w' : World) : Prop :=
  ∃ A n c, e = .returned (.tuple #[.agg #[.slice A n c, .int .i64 r.2.1], .int .i64 r.2.2.1, .int .i64 r.2.2.2.1, .int .i64 r.2.2.2.2]) ∧ IntsAt w' A n r.1 ∧ Below w.heap.size w w'

set_option maxRecDepth 100000 in
set_option maxHeartbeats 8000000 in
theorem page_Lay {A : Option Addr} {n : Nat} {xs : List Int} (c : Nat) (cur s a k : Int) {w : World} (h : IntsAt w A n xs) (hn : n ≤ 100000)
    (bc : -9223372036854775808 ≤ cur ∧ cur ≤ 9223372036854775807) (bs' : -9223372036854775808 ≤ s ∧ s ≤ 9223372036854775807) (ba : -9223372036854775808 ≤ a ∧ a ≤ 9223372036854775807) (bk : -9223372036854775808 ≤ k ∧ k ≤ 9223372036854775807) :
    Calls Try.prog 146 #[.agg #[.slice A n c, .int .i64 cur], .int .i64 s, .int .i64 a, .int .i64 k] w (GivesLay w (PG.lay xs cur s a k)) := by
  obtain ⟨w0, hw0⟩ : ∃ w0, (w.alloc (.cells #[.slice A n c, .int .i64 cur] 153)).alloc (.cells #[.slice none 0 0, .int .i64 0] 153) = w0 := ⟨_, rfl⟩
  obtain ⟨bs, hbs⟩ : ∃ bs, w.heap.size = bs := ⟨_, rfl⟩
  have hB0 : Below w.heap.size w w0 := by rw [← hw0]; exact (by repeat (first | exact Below.refl _ _ | assumption | refine bel_drew ?_ | refine bel_drewN ?_ _ | refine bel_alloc ?_ _ | refine bel_set ?_ (by first | (dsimp only; omega) | (simp; done) | (simp; omega)) _ | refine bel_trans ?_ (by assumption)))
  have D0 : Hid (w0.cell? ⟨bs, 0, none⟩ = some (.slice A n c)) := Lib.hid (by rw [← hw0, ← hbs]; simp [go_sem])
  have D1 : Hid (w0.cell? ⟨bs, 1, none⟩ = some (.int .i64 cur)) := Lib.hid (by rw [← hw0, ← hbs]; simp [go_sem])
  have R0 : Hid (w0.cell? ⟨bs + 1, 0, none⟩ = some (.slice none 0 0)) := Lib.hid (by rw [← hw0, ← hbs]; simp [go_sem])
  have R1 : Hid (w0.cell? ⟨bs + 1, 1, none⟩ = some (.int .i64 0)) := Lib.hid (by rw [← hw0, ← hbs]; simp [go_sem])
  have F0 : Hid (w0.frozen? ⟨bs + 1, 0, none⟩ = false) := Lib.hid (by rw [← hw0, ← hbs]; simp [go_sem])
  have F1 : Hid (w0.frozen? ⟨bs + 1, 1, none⟩ = false) := Lib.hid (by rw [← hw0, ← hbs]; simp [go_sem])
  have DS : Hid (bs + 1 < w0.heap.size) := Lib.hid (by rw [← hw0, ← hbs]; simp)
  have h0 := h.keep hB0
  have K1 := page_Right c cur h0 hn
  replace hw0 := Lib.hid hw0
  have HBS := Lib.hid hbs
  have HW0 := Lib.hid hB0
  rcases hr : PG.right xs cur with _ | _
  · rw [hr] at K1
    have e : PG.lay xs cur s a k = ([], 0, 0, 0, 2) := by unfold PG.lay; rw [if_pos hr]
    rw [e]
    replace K1 := Lib.hid K1
    clear h h0 hr e hB0 hbs
    go_enter Try.func146, Try.ntmps146
    go_wp2_with fail
    rw [hw0.out, HBS.out]
    refine K1.out.mono ?_
    rintro e w5 ⟨rfl, h5⟩
    have y0 := cell_after h5 (by have := DS.out; dsimp only; omega) R0.out
    have y1 := cell_after h5 (by have := DS.out; dsimp only; omega) R1.out
    have z0 := cell_after h5 (by have := DS.out; dsimp only; omega) D0.out
    have z1 := cell_after h5 (by have := DS.out; dsimp only; omega) D1.out
    have f0 := (h5.frozen (p := ⟨bs + 1, 0, none⟩) (by have := DS.out; dsimp only; omega)).trans F0.out
    have f1 := (h5.frozen (p := ⟨bs + 1, 1, none⟩) (by have := DS.out; dsimp only; omega)).trans F1.out
    have B5 := bel_trans' HW0.out h5 HW0.out.size
    have hsz := HBS.out
    go_wp2_with fail
    have g2 : ∀ v u, ((w5.setCell ⟨bs + 1, 0, none⟩ v).setCell ⟨bs + 1, 1, none⟩ u).cell? ⟨bs + 1, 1, none⟩ = some u := fun v u => World.cell?_setCell_same _ _ _ ((World.cell?_setCell_other _ _ _ _ (by simp)).trans y1)
    have g3 : ∀ v, (w5.setCell ⟨bs + 1, 0, none⟩ v).cell? ⟨bs + 1, 0, none⟩ = some v := fun v => World.cell?_setCell_same _ _ _ y0
    refine bodyPost_ret (v := .tuple #[.agg #[.slice none 0 0, .int .i64 0], .int .i64 0, .int .i64 0, .int .i64 2]) (by simp [results, Try.results146, go_sem, g2, g3]) rfl ?_
    exact ⟨none, 0, 0, rfl, IntsAt.nil, (by repeat (first | exact Below.refl _ _ | assumption | refine bel_drew ?_ | refine bel_drewN ?_ _ | refine bel_alloc ?_ _ | refine bel_set ?_ (by first | (dsimp only; omega) | (simp; done) | (simp; omega)) _ | refine bel_trans ?_ (by assumption)))⟩
  · rw [hr] at K1
    have K2 := fun W => bump_Place cur s a k W bc bs' ba bk
    have K3 : Hid (∀ W, Below w0.heap.size w0 W → Calls Try.prog 158 #[.agg #[.slice A n c, .int .i64 cur]] W fun e w' => e = .returned (.int .i64 (PG.last xs cur)) ∧ Below W.heap.size W w') := Lib.hid (fun W hW => page_Last c cur (h0.keep hW) hn)
    have K4 : Hid (∀ W, Below w0.heap.size w0 W → Calls Try.prog 159 #[.agg #[.slice A n c, .int .i64 cur]] W (GivesP W xs cur)) := Lib.hid (fun W hW => page_own c cur (h0.keep hW) hn)
    have HL : PG.lay xs cur s a k = (if (PB.place cur s a k).2.2 ≠ 0 then ([], 0, 0, 0, (PB.place cur s a k).2.2) else if xs = [] then ([], 0, 0, 0, 9) else (xs, (PB.place cur s a k).2.1, PG.last xs cur, (PB.place cur s a k).1, 0)) := by unfold PG.lay; rw [if_neg (by rw [hr]; simp)]
    have HLA : xs = [] → PG.last xs cur = -1 := by rintro rfl; unfold PG.last; simp
    have HLB : xs ≠ [] → 0 ≤ PG.last xs cur := by
      intro hx
      unfold PG.last
      rw [hr, decide_eq_true hx]
      have hlen : 0 < xs.length := List.length_pos_iff.2 hx
      have := ((PG.right_iff.1 hr).2.2 (xs.length - 1) (by omega)).1
      simpa using ((PG.fit_iff _).1 this).1
    generalize PB.place cur s a k = pl at *
    obtain ⟨p1, p2, p3⟩ := pl
    dsimp only at HL K2
    generalize PG.last xs cur = la at *
    generalize PG.lay xs cur s a k = LY at *
    replace K1 := Lib.hid K1
    replace K2 := Lib.hid K2
    clear h h0 hB0 hbs hr
    by_cases hp3 : p3 = 0
    · subst hp3
      rw [if_neg (by simp)] at HL
      by_cases hx : xs = []
      · rw [if_pos hx] at HL
        have hla := HLA hx
        subst HL hla
        clear HLA HLB K4 hx
        go_enter Try.func146, Try.ntmps146
        go_wp2_with fail
        rw [hw0.out, HBS.out]
        refine K1.out.mono ?_
        rintro e w5 ⟨rfl, h5⟩
        have y0 := cell_after h5 (by have := DS.out; dsimp only; omega) R0.out
        have y1 := cell_after h5 (by have := DS.out; dsimp only; omega) R1.out
        have z0 := cell_after h5 (by have := DS.out; dsimp only; omega) D0.out
        have z1 := cell_after h5 (by have := DS.out; dsimp only; omega) D1.out
        have f0 := (h5.frozen (p := ⟨bs + 1, 0, none⟩) (by have := DS.out; dsimp only; omega)).trans F0.out
        have f1 := (h5.frozen (p := ⟨bs + 1, 1, none⟩) (by have := DS.out; dsimp only; omega)).trans F1.out
        go_wp2_with fail
        refine (K2.out _).mono ?_
        rintro e w6 ⟨rfl, rfl⟩
        go_wp2_with fail
        refine (K3.out _ h5).mono ?_
        rintro e w7 ⟨rfl, h7⟩
        have h5b := bel_trans h5 h7
        clear z0 z1 y0 y1 f0 f1
        have y0 := cell_after h5b (by have := DS.out; dsimp only; omega) R0.out
        have y1 := cell_after h5b (by have := DS.out; dsimp only; omega) R1.out
        have z0 := cell_after h5b (by have := DS.out; dsimp only; omega) D0.out
        have z1 := cell_after h5b (by have := DS.out; dsimp only; omega) D1.out
        have f0 := (h5b.frozen (p := ⟨bs + 1, 0, none⟩) (by have := DS.out; dsimp only; omega)).trans F0.out
        have f1 := (h5b.frozen (p := ⟨bs + 1, 1, none⟩) (by have := DS.out; dsimp only; omega)).trans F1.out
        have B5 := bel_trans' HW0.out h5b HW0.out.size
        have hsz := HBS.out
        go_wp2_with fail
        have g2 : ∀ v u, ((w7.setCell ⟨bs + 1, 0, none⟩ v).setCell ⟨bs + 1, 1, none⟩ u).cell? ⟨bs + 1, 1, none⟩ = some u := fun v u => World.cell?_setCell_same _ _ _ ((World.cell?_setCell_other _ _ _ _ (by simp)).trans y1)
        have g3 : ∀ v, (w7.setCell ⟨bs + 1, 0, none⟩ v).cell? ⟨bs + 1, 0, none⟩ = some v := fun v => World.cell?_setCell_same _ _ _ y0
        refine bodyPost_ret (v := .tuple #[.agg #[.slice none 0 0, .int .i64 0], .int .i64 0, .int .i64 0, .int .i64 9]) (by simp [results, Try.results146, go_sem, g2, g3]) rfl ?_
        exact ⟨none, 0, 0, rfl, IntsAt.nil, (by repeat (first | exact Below.refl _ _ | assumption | refine bel_drew ?_ | refine bel_drewN ?_ _ | refine bel_alloc ?_ _ | refine bel_set ?_ (by first | (dsimp only; omega) | (simp; done) | (simp; omega)) _ | refine bel_trans ?_ (by assumption)))⟩
      · rw [if_neg hx] at HL
        have hla := HLB hx
        have q3 : decide (la < 0) = false := by simpa using hla
        subst HL
        clear HLA HLB hx
        go_enter Try.func146, Try.ntmps146
        go_wp2_with fail
        rw [hw0.out, HBS.out]
        refine K1.out.mono ?_
        rintro e w5 ⟨rfl, h5⟩
        have y0 := cell_after h5 (by have := DS.out; dsimp only; omega) R0.out
        have y1 := cell_after h5 (by have := DS.out; dsimp only; omega) R1.out
        have z0 := cell_after h5 (by have := DS.out; dsimp only; omega) D0.out
        have z1 := cell_after h5 (by have := DS.out; dsimp only; omega) D1.out
        have f0 := (h5.frozen (p := ⟨bs + 1, 0, none⟩) (by have := DS.out; dsimp only; omega)).trans F0.out
        have f1 := (h5.frozen (p := ⟨bs + 1, 1, none⟩) (by have := DS.out; dsimp only; omega)).trans F1.out
        go_wp2_with fail
        refine (K2.out _).mono ?_
        rintro e w6 ⟨rfl, rfl⟩
        go_wp2_with fail
        refine (K3.out _ h5).mono ?_
        rintro e w7 ⟨rfl, h7⟩
        have h5b := bel_trans h5 h7
        clear z0 z1 y0 y1 f0 f1
        have y0 := cell_after h5b (by have := DS.out; dsimp only; omega) R0.out
        have y1 := cell_after h5b (by have := DS.out; dsimp only; omega) R1.out
        have z0 := cell_after h5b (by have := DS.out; dsimp only; omega) D0.out
        have z1 := cell_after h5b (by have := DS.out; dsimp only; omega) D1.out
        have f0 := (h5b.frozen (p := ⟨bs + 1, 0, none⟩) (by have := DS.out; dsimp only; omega)).trans F0.out
        have f1 := (h5b.frozen (p := ⟨bs + 1, 1, none⟩) (by have := DS.out; dsimp only; omega)).trans F1.out
        go_wp2_with fail
        refine (K4.out _ h5b).mono ?_
        rintro e w8 ⟨v8, rfl, ho8, h8⟩
        obtain ⟨A8, c8, rfl, i8, hlc, hcm⟩ := ho8.ints
        have h8b := bel_trans h5b h8
        clear z0 z1 y0 y1 f0 f1
        have y0 := cell_after h8b (by have := DS.out; dsimp only; omega) R0.out
        have y1 := cell_after h8b (by have := DS.out; dsimp only; omega) R1.out
        have z0 := cell_after h8b (by have := DS.out; dsimp only; omega) D0.out
        have z1 := cell_after h8b (by have := DS.out; dsimp only; omega) D1.out
        have f0 := (h8b.frozen (p := ⟨bs + 1, 0, none⟩) (by have := DS.out; dsimp only; omega)).trans F0.out
        have f1 := (h8b.frozen (p := ⟨bs + 1, 1, none⟩) (by have := DS.out; dsimp only; omega)).trans F1.out
        have B5 := bel_trans' HW0.out h8b HW0.out.size
        have hsz := HBS.out
        have O8 := Lib.hid ho8
        have sz7 := Nat.lt_of_lt_of_le DS.out h5b.size
        have sz8 := Nat.lt_of_lt_of_le DS.out h8b.size
        clear i8 ho8
        go_wp2_with fail
        have g2 : ∀ v u, ((w8.setCell ⟨bs + 1, 0, none⟩ v).setCell ⟨bs + 1, 1, none⟩ u).cell? ⟨bs + 1, 1, none⟩ = some u := fun v u => World.cell?_setCell_same _ _ _ ((World.cell?_setCell_other _ _ _ _ (by simp)).trans y1)
        have g3 : ∀ v, (w8.setCell ⟨bs + 1, 0, none⟩ v).cell? ⟨bs + 1, 0, none⟩ = some v := fun v => World.cell?_setCell_same _ _ _ y0
        have g5 : ∀ v u o, (((w8.setCell ⟨bs + 1, 0, none⟩ v).setCell ⟨bs + 1, 1, none⟩ u).alloc o).cell? ⟨bs + 1, 1, none⟩ = some u := fun v u o => cell_alloc _ (by simp; omega) (g2 v u)
        have g6 : ∀ v u o, (((w8.setCell ⟨bs + 1, 0, none⟩ v).setCell ⟨bs + 1, 1, none⟩ u).alloc o).cell? ⟨bs + 1, 0, none⟩ = some v := fun v u o => cell_alloc _ (by simp; omega) ((World.cell?_setCell_other _ _ _ _ (by simp)).trans (g3 v))
        refine bodyPost_ret (v := .tuple #[.agg #[.slice A8 xs.length c8, .int .i64 p2], .int .i64 la, .int .i64 p1, .int .i64 0]) (by simp [results, Try.results146, go_sem, g2, g3, g5, g6]) rfl ?_
        refine ⟨A8, xs.length, c8, rfl, ?_, (by repeat (first | exact Below.refl _ _ | assumption | refine bel_drew ?_ | refine bel_drewN ?_ _ | refine bel_alloc ?_ _ | refine bel_set ?_ (by first | (dsimp only; omega) | (simp; done) | (simp; omega)) _ | refine bel_trans ?_ (by assumption)))⟩
        exact (((O8.out.keepSet _ _ (by dsimp only; omega)).keepSet _ _ (by dsimp only; omega)).keep (bel_alloc (Below.refl _ _) _)).intsV
    · rw [if_pos hp3] at HL
      have q1 : (p3 == 0) = false := by simpa using hp3
      have q2 : (p3 != 0) = true := by simpa using hp3
      subst HL
      clear HLA HLB K4 hp3
      go_enter Try.func146, Try.ntmps146
      go_wp2_with fail
      rw [hw0.out, HBS.out]
      refine K1.out.mono ?_
      rintro e w5 ⟨rfl, h5⟩
      have y0 := cell_after h5 (by have := DS.out; dsimp only; omega) R0.out
      have y1 := cell_after h5 (by have := DS.out; dsimp only; omega) R1.out
      have z0 := cell_after h5 (by have := DS.out; dsimp only; omega) D0.out
      have z1 := cell_after h5 (by have := DS.out; dsimp only; omega) D1.out
      have f0 := (h5.frozen (p := ⟨bs + 1, 0, none⟩) (by have := DS.out; dsimp only; omega)).trans F0.out
      have f1 := (h5.frozen (p := ⟨bs + 1, 1, none⟩) (by have := DS.out; dsimp only; omega)).trans F1.out
      go_wp2_with fail
      refine (K2.out _).mono ?_
      rintro e w6 ⟨rfl, rfl⟩
      go_wp2_with fail
      refine (K3.out _ h5).mono ?_
      rintro e w7 ⟨rfl, h7⟩
      have h5b := bel_trans h5 h7
      clear z0 z1 y0 y1 f0 f1
      have y0 := cell_after h5b (by have := DS.out; dsimp only; omega) R0.out
      have y1 := cell_after h5b (by have := DS.out; dsimp only; omega) R1.out
      have z0 := cell_after h5b (by have := DS.out; dsimp only; omega) D0.out
      have z1 := cell_after h5b (by have := DS.out; dsimp only; omega) D1.out
      have f0 := (h5b.frozen (p := ⟨bs + 1, 0, none⟩) (by have := DS.out; dsimp only; omega)).trans F0.out
      have f1 := (h5b.frozen (p := ⟨bs + 1, 1, none⟩) (by have := DS.out; dsimp only; omega)).trans F1.out
      have B5 := bel_trans' HW0.out h5b HW0.out.size
      have hsz := HBS.out
      go_wp2_with fail
      have g2 : ∀ v u, ((w7.setCell ⟨bs + 1, 0, none⟩ v).setCell ⟨bs + 1, 1, none⟩ u).cell? ⟨bs + 1, 1, none⟩ = some u := fun v u => World.cell?_setCell_same _ _ _ ((World.cell?_setCell_other _ _ _ _ (by simp)).trans y1)
      have g3 : ∀ v, (w7.setCell ⟨bs + 1, 0, none⟩ v).cell? ⟨bs + 1, 0, none⟩ = some v := fun v => World.cell?_setCell_same _ _ _ y0
      refine bodyPost_ret (v := .tuple #[.agg #[.slice none 0 0, .int .i64 0], .int .i64 0, .int .i64 0, .int .i64 p3]) (by simp [results, Try.results146, go_sem, g2, g3]) rfl ?_
      exact ⟨none, 0, 0, rfl, IntsAt.nil, (by repeat (first | exact Below.refl _ _ | assumption | refine bel_drew ?_ | refine bel_drewN ?_ _ | refine bel_alloc ?_ _ | refine bel_set ?_ (by first | (dsimp only; omega) | (simp; done) | (simp; omega)) _ | refine bel_trans ?_ (by assumption)))⟩
end Go.Proofs.Ytdhcmnbajkpjiaa
/-
  Layer 39 (page): Add.
-/
namespace Go.Proofs.Ytdhcmnbajkpjiaa
open Go.RowKit
set_option linter.unusedVariables false
set_option linter.unusedSimpArgs false
attribute [local go_sem] drewN_alloc drewN_setCell

/-- What Add hands back. -/
def GivesAdd (w : World) (r : List Int × Int) (e : Ending) (w' : World) : Prop :=
  ∃ A n c, e = .returned (.tuple #[.agg #[.slice A n c, .int .i64 0], .int .i64 r.2]) ∧ IntsAt w' A n r.1 ∧ Below w.heap.size w w'

set_option maxRecDepth 100000 in
set_option maxHeartbeats 8000000 in
theorem page_Add {A : Option Addr} {n : Nat} {xs : List Int} (c : Nat) (cur i : Int) {w : World} (h : IntsAt w A n xs) (hn : n ≤ 100000) :
    Calls Try.prog 148 #[.agg #[.slice A n c, .int .i64 cur], .int .i64 i] w (GivesAdd w (PG.add xs cur i)) := by
  obtain ⟨w0, hw0⟩ : ∃ w0, (w.alloc (.cells #[.slice A n c, .int .i64 cur] 153)).alloc (.cells #[.slice none 0 0, .int .i64 0] 153) = w0 := ⟨_, rfl⟩
  obtain ⟨bs, hbs⟩ : ∃ bs, w.heap.size = bs := ⟨_, rfl⟩
  have hB0 : Below w.heap.size w w0 := by rw [← hw0]; exact (by repeat (first | exact Below.refl _ _ | assumption | refine bel_drew ?_ | refine bel_drewN ?_ _ | refine bel_alloc ?_ _ | refine bel_set ?_ (by first | (dsimp only; omega) | (simp; done) | (simp; omega)) _ | refine bel_trans ?_ (by assumption)))
  have D0 : Hid (w0.cell? ⟨bs, 0, none⟩ = some (.slice A n c)) := Lib.hid (by rw [← hw0, ← hbs]; simp [go_sem])
  have D1 : Hid (w0.cell? ⟨bs, 1, none⟩ = some (.int .i64 cur)) := Lib.hid (by rw [← hw0, ← hbs]; simp [go_sem])
  have R0 : Hid (w0.cell? ⟨bs + 1, 0, none⟩ = some (.slice none 0 0)) := Lib.hid (by rw [← hw0, ← hbs]; simp [go_sem])
  have R1 : Hid (w0.cell? ⟨bs + 1, 1, none⟩ = some (.int .i64 0)) := Lib.hid (by rw [← hw0, ← hbs]; simp [go_sem])
  have F0 : Hid (w0.frozen? ⟨bs + 1, 0, none⟩ = false) := Lib.hid (by rw [← hw0, ← hbs]; simp [go_sem])
  have F1 : Hid (w0.frozen? ⟨bs + 1, 1, none⟩ = false) := Lib.hid (by rw [← hw0, ← hbs]; simp [go_sem])
  have DS : Hid (bs + 1 < w0.heap.size) := Lib.hid (by rw [← hw0, ← hbs]; simp)
  have h0 := h.keep hB0
  have K1 := page_Right c cur h0 hn
  have K2 := fun W => page_is i W
  have HLN : Hid (xs.length + 1 ≤ 1048576) := Lib.hid (by have := h.1; omega)
  have K3 : Hid (∀ W, Below w0.heap.size w0 W → Calls Try.prog 137 #[.slice A n c, .int .i64 i] W fun e w' => e = .returned (.bool (decide (i ∈ xs))) ∧ Below W.heap.size W w') := Lib.hid (fun W hW => slices_ContainsI c i (h0.keep hW))
  have K4 : Hid (∀ W, Below w0.heap.size w0 W → Calls Try.prog 159 #[.agg #[.slice A n c, .int .i64 cur]] W (GivesP W xs cur)) := Lib.hid (fun W hW => page_own c cur (h0.keep hW) hn)
  replace hw0 := Lib.hid hw0
  have HBS := Lib.hid hbs
  have HW0 := Lib.hid hB0
  have HL : PG.add xs cur i = (if PG.right xs cur = false ∨ PG.fit i = false then ([], 2) else if i ∈ xs then ([], 19) else (xs ++ [i], 0)) := rfl
  generalize PG.add xs cur i = LY at *
  rcases hr : PG.right xs cur with _ | _
  · rw [hr] at K1
    rw [if_pos (Or.inl hr)] at HL
    subst HL
    replace K1 := Lib.hid K1
    clear h h0 hr hB0 hbs K2 K3 K4
    go_enter Try.func148, Try.ntmps148
    go_wp2_with fail
    rw [hw0.out, HBS.out]
    refine K1.out.mono ?_
    rintro e w5 ⟨rfl, h5⟩
    have y0 := cell_after h5 (by have := DS.out; dsimp only; omega) R0.out
    have y1 := cell_after h5 (by have := DS.out; dsimp only; omega) R1.out
    have z0 := cell_after h5 (by have := DS.out; dsimp only; omega) D0.out
    have z1 := cell_after h5 (by have := DS.out; dsimp only; omega) D1.out
    have f0 := (h5.frozen (p := ⟨bs + 1, 0, none⟩) (by have := DS.out; dsimp only; omega)).trans F0.out
    have f1 := (h5.frozen (p := ⟨bs + 1, 1, none⟩) (by have := DS.out; dsimp only; omega)).trans F1.out
    have B5 := bel_trans' HW0.out h5 HW0.out.size
    have hsz := HBS.out
    go_wp2_with fail
    have g2 : ∀ v u, ((w5.setCell ⟨bs + 1, 0, none⟩ v).setCell ⟨bs + 1, 1, none⟩ u).cell? ⟨bs + 1, 1, none⟩ = some u := fun v u => World.cell?_setCell_same _ _ _ ((World.cell?_setCell_other _ _ _ _ (by simp)).trans y1)
    have g3 : ∀ v, (w5.setCell ⟨bs + 1, 0, none⟩ v).cell? ⟨bs + 1, 0, none⟩ = some v := fun v => World.cell?_setCell_same _ _ _ y0
    refine bodyPost_ret (v := .tuple #[.agg #[.slice none 0 0, .int .i64 0], .int .i64 2]) (by simp [results, Try.results148, go_sem, g2, g3]) rfl ?_
    exact ⟨none, 0, 0, rfl, IntsAt.nil, (by repeat (first | exact Below.refl _ _ | assumption | refine bel_drew ?_ | refine bel_drewN ?_ _ | refine bel_alloc ?_ _ | refine bel_set ?_ (by first | (dsimp only; omega) | (simp; done) | (simp; omega)) _ | refine bel_trans ?_ (by assumption)))⟩
  rw [hr] at K1
  rcases hf : PG.fit i with _ | _
  · rw [if_pos (Or.inr hf)] at HL
    subst HL
    rw [hf] at K2
    replace K1 := Lib.hid K1
    replace K2 := Lib.hid K2
    clear h h0 hr hB0 hbs K3 K4 hf
    go_enter Try.func148, Try.ntmps148
    go_wp2_with fail
    rw [hw0.out, HBS.out]
    refine K1.out.mono ?_
    rintro e w5 ⟨rfl, h5⟩
    have y0 := cell_after h5 (by have := DS.out; dsimp only; omega) R0.out
    have y1 := cell_after h5 (by have := DS.out; dsimp only; omega) R1.out
    have z0 := cell_after h5 (by have := DS.out; dsimp only; omega) D0.out
    have z1 := cell_after h5 (by have := DS.out; dsimp only; omega) D1.out
    have f0 := (h5.frozen (p := ⟨bs + 1, 0, none⟩) (by have := DS.out; dsimp only; omega)).trans F0.out
    have f1 := (h5.frozen (p := ⟨bs + 1, 1, none⟩) (by have := DS.out; dsimp only; omega)).trans F1.out
    have B5 := bel_trans' HW0.out h5 HW0.out.size
    have hsz := HBS.out
    go_wp2_with fail
    refine (K2.out _).mono ?_
    rintro e w6 ⟨rfl, rfl⟩
    go_wp2_with fail
    have g2 : ∀ v u, ((w5.setCell ⟨bs + 1, 0, none⟩ v).setCell ⟨bs + 1, 1, none⟩ u).cell? ⟨bs + 1, 1, none⟩ = some u := fun v u => World.cell?_setCell_same _ _ _ ((World.cell?_setCell_other _ _ _ _ (by simp)).trans y1)
    have g3 : ∀ v, (w5.setCell ⟨bs + 1, 0, none⟩ v).cell? ⟨bs + 1, 0, none⟩ = some v := fun v => World.cell?_setCell_same _ _ _ y0
    refine bodyPost_ret (v := .tuple #[.agg #[.slice none 0 0, .int .i64 0], .int .i64 2]) (by simp [results, Try.results148, go_sem, g2, g3]) rfl ?_
    exact ⟨none, 0, 0, rfl, IntsAt.nil, (by repeat (first | exact Below.refl _ _ | assumption | refine bel_drew ?_ | refine bel_drewN ?_ _ | refine bel_alloc ?_ _ | refine bel_set ?_ (by first | (dsimp only; omega) | (simp; done) | (simp; omega)) _ | refine bel_trans ?_ (by assumption)))⟩
  rw [hf] at K2
  rw [if_neg (by rw [hr, hf]; simp)] at HL
  replace K1 := Lib.hid K1
  replace K2 := Lib.hid K2
  by_cases hm : i ∈ xs
  · rw [if_pos hm] at HL
    subst HL
    rw [decide_eq_true hm] at K3
    clear h h0 hr hB0 hbs K4 hf hm
    go_enter Try.func148, Try.ntmps148
    go_wp2_with fail
    rw [hw0.out, HBS.out]
    refine K1.out.mono ?_
    rintro e w5 ⟨rfl, h5⟩
    have y0 := cell_after h5 (by have := DS.out; dsimp only; omega) R0.out
    have y1 := cell_after h5 (by have := DS.out; dsimp only; omega) R1.out
    have z0 := cell_after h5 (by have := DS.out; dsimp only; omega) D0.out
    have z1 := cell_after h5 (by have := DS.out; dsimp only; omega) D1.out
    have f0 := (h5.frozen (p := ⟨bs + 1, 0, none⟩) (by have := DS.out; dsimp only; omega)).trans F0.out
    have f1 := (h5.frozen (p := ⟨bs + 1, 1, none⟩) (by have := DS.out; dsimp only; omega)).trans F1.out
    go_wp2_with fail
    refine (K2.out _).mono ?_
    rintro e w6 ⟨rfl, rfl⟩
    go_wp2_with fail
    refine (K3.out _ h5).mono ?_
    rintro e w7 ⟨rfl, h7⟩
    have h5b := bel_trans h5 h7
    clear z0 z1 y0 y1 f0 f1
    have y0 := cell_after h5b (by have := DS.out; dsimp only; omega) R0.out
    have y1 := cell_after h5b (by have := DS.out; dsimp only; omega) R1.out
    have z0 := cell_after h5b (by have := DS.out; dsimp only; omega) D0.out
    have z1 := cell_after h5b (by have := DS.out; dsimp only; omega) D1.out
    have f0 := (h5b.frozen (p := ⟨bs + 1, 0, none⟩) (by have := DS.out; dsimp only; omega)).trans F0.out
    have f1 := (h5b.frozen (p := ⟨bs + 1, 1, none⟩) (by have := DS.out; dsimp only; omega)).trans F1.out
    have B5 := bel_trans' HW0.out h5b HW0.out.size
    have hsz := HBS.out
    go_wp2_with fail
    have g2 : ∀ v u, ((w7.setCell ⟨bs + 1, 0, none⟩ v).setCell ⟨bs + 1, 1, none⟩ u).cell? ⟨bs + 1, 1, none⟩ = some u := fun v u => World.cell?_setCell_same _ _ _ ((World.cell?_setCell_other _ _ _ _ (by simp)).trans y1)
    have g3 : ∀ v, (w7.setCell ⟨bs + 1, 0, none⟩ v).cell? ⟨bs + 1, 0, none⟩ = some v := fun v => World.cell?_setCell_same _ _ _ y0
    refine bodyPost_ret (v := .tuple #[.agg #[.slice none 0 0, .int .i64 0], .int .i64 19]) (by simp [results, Try.results148, go_sem, g2, g3]) rfl ?_
    exact ⟨none, 0, 0, rfl, IntsAt.nil, (by repeat (first | exact Below.refl _ _ | assumption | refine bel_drew ?_ | refine bel_drewN ?_ _ | refine bel_alloc ?_ _ | refine bel_set ?_ (by first | (dsimp only; omega) | (simp; done) | (simp; omega)) _ | refine bel_trans ?_ (by assumption)))⟩
  · rw [if_neg hm] at HL
    subst HL
    rw [decide_eq_false hm] at K3
    clear h h0 hr hB0 hbs hf hm
    go_enter Try.func148, Try.ntmps148
    go_wp2_with fail
    rw [hw0.out, HBS.out]
    refine K1.out.mono ?_
    rintro e w5 ⟨rfl, h5⟩
    have y0 := cell_after h5 (by have := DS.out; dsimp only; omega) R0.out
    have y1 := cell_after h5 (by have := DS.out; dsimp only; omega) R1.out
    have z0 := cell_after h5 (by have := DS.out; dsimp only; omega) D0.out
    have z1 := cell_after h5 (by have := DS.out; dsimp only; omega) D1.out
    have f0 := (h5.frozen (p := ⟨bs + 1, 0, none⟩) (by have := DS.out; dsimp only; omega)).trans F0.out
    have f1 := (h5.frozen (p := ⟨bs + 1, 1, none⟩) (by have := DS.out; dsimp only; omega)).trans F1.out
    go_wp2_with fail
    refine (K2.out _).mono ?_
    rintro e w6 ⟨rfl, rfl⟩
    go_wp2_with fail
    refine (K3.out _ h5).mono ?_
    rintro e w7 ⟨rfl, h7⟩
    have h5b := bel_trans h5 h7
    clear z0 z1 y0 y1 f0 f1
    have y0 := cell_after h5b (by have := DS.out; dsimp only; omega) R0.out
    have y1 := cell_after h5b (by have := DS.out; dsimp only; omega) R1.out
    have z0 := cell_after h5b (by have := DS.out; dsimp only; omega) D0.out
    have z1 := cell_after h5b (by have := DS.out; dsimp only; omega) D1.out
    have f0 := (h5b.frozen (p := ⟨bs + 1, 0, none⟩) (by have := DS.out; dsimp only; omega)).trans F0.out
    have f1 := (h5b.frozen (p := ⟨bs + 1, 1, none⟩) (by have := DS.out; dsimp only; omega)).trans F1.out
    go_wp2_with fail
    refine (K4.out _ h5b).mono ?_
    rintro e w8 ⟨v8, rfl, ho8, h8⟩
    obtain ⟨A8, c8, rfl, i8, hlc, hcm⟩ := ho8.ints
    have h8b := bel_trans h5b h8
    clear z0 z1 y0 y1 f0 f1
    have y0 := cell_after h8b (by have := DS.out; dsimp only; omega) R0.out
    have y1 := cell_after h8b (by have := DS.out; dsimp only; omega) R1.out
    have z0 := cell_after h8b (by have := DS.out; dsimp only; omega) D0.out
    have z1 := cell_after h8b (by have := DS.out; dsimp only; omega) D1.out
    have f0 := (h8b.frozen (p := ⟨bs + 1, 0, none⟩) (by have := DS.out; dsimp only; omega)).trans F0.out
    have f1 := (h8b.frozen (p := ⟨bs + 1, 1, none⟩) (by have := DS.out; dsimp only; omega)).trans F1.out
    have B5 := bel_trans' HW0.out h8b HW0.out.size
    have hsz := HBS.out
    have O8 := Lib.hid ho8
    have sz7 := Nat.lt_of_lt_of_le DS.out h5b.size
    have sz78 := h8.size
    clear i8 ho8
    go_wp2_with (at_builtin; (refine app_listI rfl (.tmp 26) (.tmp 28) rfl w7.heap.size _ xs rfl (O8.out.keep (by exact (by repeat (first | exact Below.refl _ _ | assumption | refine bel_drew ?_ | refine bel_drewN ?_ _ | refine bel_alloc ?_ _ | refine bel_set ?_ (by first | (dsimp only; omega) | (simp; done) | (simp; omega)) _ | refine bel_trans ?_ (by assumption))))) (some ⟨w8.heap.size + 1, 0, none⟩) 1 1 [i] rfl (src_oneI (by simp [go_sem])) HLN.out (by first | omega | (dsimp only; omega) | (simp; omega) | (dsimp only; simp; omega)) ?_; intro v9 w9 ho9 hb9; obtain ⟨A9, c9, rfl, _⟩ := ho9.ints; replace ho9 := Lib.hid ho9; have B9 := bel_trans' (show Below w.heap.size w _ from (by repeat (first | exact Below.refl _ _ | assumption | refine bel_drew ?_ | refine bel_drewN ?_ _ | refine bel_alloc ?_ _ | refine bel_set ?_ (by first | (dsimp only; omega) | (simp; done) | (simp; omega)) _ | refine bel_trans ?_ (by assumption)))) hb9 (by omega); have q8 := bel_alloc (bel_alloc (Below.refl w8.heap.size w8) (.cells #[.slice A8 xs.length c8, .int .i64 cur] 153)) (.cells #[.int .i64 i] 3); have hs8 : bs + 1 < w8.heap.size := (by omega); have hs7 : bs + 1 < w7.heap.size := (by omega); have Y0 := (hb9.cell (p := ⟨bs + 1, 0, none⟩) hs7).trans (cell_after q8 hs8 y0); have Y1 := (hb9.cell (p := ⟨bs + 1, 1, none⟩) hs7).trans (cell_after q8 hs8 y1); have G0 := (hb9.frozen (p := ⟨bs + 1, 0, none⟩) hs7).trans ((q8.frozen (p := ⟨bs + 1, 0, none⟩) hs8).trans f0); have G1 := (hb9.frozen (p := ⟨bs + 1, 1, none⟩) hs7).trans ((q8.frozen (p := ⟨bs + 1, 1, none⟩) hs8).trans f1)))
    have g2 : ∀ v u, ((w9.setCell ⟨bs + 1, 0, none⟩ v).setCell ⟨bs + 1, 1, none⟩ u).cell? ⟨bs + 1, 1, none⟩ = some u := fun v u => World.cell?_setCell_same _ _ _ ((World.cell?_setCell_other _ _ _ _ (by simp)).trans Y1)
    have g3 : ∀ v, (w9.setCell ⟨bs + 1, 0, none⟩ v).cell? ⟨bs + 1, 0, none⟩ = some v := fun v => World.cell?_setCell_same _ _ _ Y0
    refine bodyPost_ret (v := .tuple #[.agg #[.slice A9 (xs ++ [i]).length c9, .int .i64 0], .int .i64 0]) (by simp [results, Try.results148, go_sem, g2, g3]) rfl ?_
    exact ⟨A9, _, c9, by first | rfl | (simp; done), ((ho9.out.keepSet _ _ (by dsimp only; omega)).keepSet _ _ (by dsimp only; omega)).intsV, (by repeat (first | exact Below.refl _ _ | assumption | refine bel_drew ?_ | refine bel_drewN ?_ _ | refine bel_alloc ?_ _ | refine bel_set ?_ (by first | (dsimp only; omega) | (simp; done) | (simp; omega)) _ | refine bel_trans ?_ (by assumption)))⟩
end Go.Proofs.Ytdhcmnbajkpjiaa
/-
  Layer 39 (page): the reference's Add.
-/
namespace Go.Proofs.Ytdhcmnbajkpjiaa
open Go.RowKit
set_option linter.unusedVariables false
set_option linter.unusedSimpArgs false
attribute [local go_sem] drewN_alloc drewN_setCell

end Go.Proofs.Ytdhcmnbajkpjiaa
/-
  The contracts of the reference's Place and Waste.
-/
namespace Go.Proofs.Ytdhcmnbajkpjiaa
open Go.RowKit
set_option linter.unusedVariables false

end Go.Proofs.Ytdhcmnbajkpjiaa
/-
  Layer 39 (page): the reference's Lay.
-/
namespace Go.Proofs.Ytdhcmnbajkpjiaa
open Go.RowKit
set_option linter.unusedVariables false
set_option linter.unusedSimpArgs false
attribute [local go_sem] drewN_alloc drewN_setCell

end Go.Proofs.Ytdhcmnbajkpjiaa
/-
  Layer 39 (page): Join of two.
-/
namespace Go.Proofs.Ytdhcmnbajkpjiaa
open Go.RowKit
set_option linter.unusedVariables false
set_option linter.unusedSimpArgs false
attribute [local go_sem] drewN_alloc drewN_setCell

set_option maxRecDepth 100000 in
set_option maxHeartbeats 8000000 in
/-- Join(p, p), the two in block g. -/
theorem page_Join {A : Option Addr} {n : Nat} {xs : List Int} (g c : Nat) (cur : Int) {w : World} (h : IntsAt w A n xs) (hn : n ≤ 1000) (hg : g < w.heap.size)
    (c0 : w.cell? ⟨g, 0, none⟩ = some (.slice A n c)) (c1 : w.cell? ⟨g, 1, none⟩ = some (.int .i64 cur)) (c2 : w.cell? ⟨g, 2, none⟩ = some (.slice A n c)) (c3 : w.cell? ⟨g, 3, none⟩ = some (.int .i64 cur)) :
    Calls Try.prog 149 #[.slice (some ⟨g, 0, none⟩) 2 2] w fun e w' => ∃ v, e = .returned v ∧ OwnI w.heap.size w' v (xs ++ xs) ∧ Below w.heap.size w w' := by
  have HLEN : Hid (xs.length = n) := Lib.hid h.1
  have HI : Hid (∀ W, Below w.heap.size w W → SrcS 1 W A n (cellsI xs)) := Lib.hid (fun W hW => (h.keep hW).srcI)
  have HN := Lib.hid hn
  clear h
  go_enter Try.func149, Try.ntmps149
  go_wp2_with fail
  refine wp_loop_rounds 3 ?_
  rw [rounds_succ]
  go_wp2_with (at_builtin; refine app_listI rfl (.tmp 12) (.tmp 14) rfl w.heap.size _ [] rfl (OwnI.nil _ _) A n c xs rfl (HI.out _ (by exact (by repeat (first | exact Below.refl _ _ | assumption | refine bel_drew ?_ | refine bel_drewN ?_ _ | refine bel_alloc ?_ _ | refine bel_set ?_ (by first | (dsimp only; omega) | (simp; done) | (simp; omega)) _ | refine bel_trans ?_ (by assumption))))) (by have := HN.out; simp; omega) (by first | omega | (simp; done) | (simp; omega)) ?_; intro v1 w1 ho1 hb1; replace ho1 := Lib.hid ho1; have B1 := bel_trans' (show Below w.heap.size w _ from (by repeat (first | exact Below.refl _ _ | assumption | refine bel_drew ?_ | refine bel_drewN ?_ _ | refine bel_alloc ?_ _ | refine bel_set ?_ (by first | (dsimp only; omega) | (simp; done) | (simp; omega)) _ | refine bel_trans ?_ (by assumption)))) hb1 (Nat.le_refl _))
  have e2 := (B1.cell (p := ⟨g, 2, none⟩) hg).trans c2
  have e3 := (B1.cell (p := ⟨g, 3, none⟩) hg).trans c3
  have sz1 := B1.size
  clear hb1
  rw [rounds_succ]
  go_wp2_with (at_builtin; refine app_listI rfl (.tmp 12) (.tmp 14) rfl w.heap.size _ ([] ++ xs) rfl (ho1.out.keep (by exact (by repeat (first | exact Below.refl _ _ | assumption | refine bel_drew ?_ | refine bel_drewN ?_ _ | refine bel_alloc ?_ _ | refine bel_set ?_ (by first | (dsimp only; omega) | (simp; done) | (simp; omega)) _ | refine bel_trans ?_ (by assumption))))) A n c xs rfl (HI.out _ (by exact (by repeat (first | exact Below.refl _ _ | assumption | refine bel_drew ?_ | refine bel_drewN ?_ _ | refine bel_alloc ?_ _ | refine bel_set ?_ (by first | (dsimp only; omega) | (simp; done) | (simp; omega)) _ | refine bel_trans ?_ (by assumption))))) (by have := HN.out; have := HLEN.out; simp; omega) (by first | omega | (simp; done) | (simp; omega)) ?_; intro v2 w2 ho2 hb2; replace ho2 := Lib.hid ho2; have B2 := bel_trans' (show Below w.heap.size w _ from (by repeat (first | exact Below.refl _ _ | assumption | refine bel_drew ?_ | refine bel_drewN ?_ _ | refine bel_alloc ?_ _ | refine bel_set ?_ (by first | (dsimp only; omega) | (simp; done) | (simp; omega)) _ | refine bel_trans ?_ (by assumption)))) hb2 (Nat.le_refl _))
  clear hb2
  rw [rounds_succ]
  go_wp2_with fail
  go_ret
  have o2 := ho2.out
  rw [List.nil_append] at o2
  exact ⟨_, rfl, o2, (by repeat (first | exact Below.refl _ _ | assumption | refine bel_drew ?_ | refine bel_drewN ?_ _ | refine bel_alloc ?_ _ | refine bel_set ?_ (by first | (dsimp only; omega) | (simp; done) | (simp; omega)) _ | refine bel_trans ?_ (by assumption)))⟩
end Go.Proofs.Ytdhcmnbajkpjiaa
/-
  Layer 39 (page): the law's same and works.
-/
namespace Go.Proofs.Ytdhcmnbajkpjiaa
open Go.RowKit
set_option linter.unusedVariables false
set_option linter.unusedSimpArgs false
attribute [local go_sem] drewN_alloc drewN_setCell

theorem lay_a : PG.lay [] 0 8 8 64 = ([], 0, 0, 0, 9) := by decide +kernel
theorem add_a : PG.add [] 0 7 = ([7], 0) := by decide +kernel
theorem lay_b : PG.lay [7] 0 8 8 64 = ([7], 8, 7, 0, 0) := by decide +kernel
theorem lay_c : PG.lay [7] 8 60 1 64 = ([], 0, 0, 0, 9) := by decide +kernel
theorem last_a : PG.last [7] 8 = 7 := by decide +kernel

end Go.Proofs.Ytdhcmnbajkpjiaa
/-
  Layer 39 (page): Lay and Add once more: what they hand back is the call's own.
-/
namespace Go.Proofs.Ytdhcmnbajkpjiaa
open Go.RowKit
set_option linter.unusedVariables false
set_option linter.unusedSimpArgs false
attribute [local go_sem] drewN_alloc drewN_setCell

def GivesLayO (w : World) (r : List Int × Int × Int × Int × Int) (e : Ending) (w' : World) : Prop :=
  ∃ v, e = .returned (.tuple #[.agg #[v, .int .i64 r.2.1], .int .i64 r.2.2.1, .int .i64 r.2.2.2.1, .int .i64 r.2.2.2.2]) ∧ OwnI w.heap.size w' v r.1 ∧ Below w.heap.size w w'
def GivesAddO (w : World) (r : List Int × Int) (e : Ending) (w' : World) : Prop :=
  ∃ v, e = .returned (.tuple #[.agg #[v, .int .i64 0], .int .i64 r.2]) ∧ OwnI w.heap.size w' v r.1 ∧ Below w.heap.size w w'

set_option maxRecDepth 100000 in
set_option maxHeartbeats 8000000 in
theorem page_LayO {A : Option Addr} {n : Nat} {xs : List Int} (c : Nat) (cur s a k : Int) {w : World} (h : IntsAt w A n xs) (hn : n ≤ 100000)
    (bc : -9223372036854775808 ≤ cur ∧ cur ≤ 9223372036854775807) (bs' : -9223372036854775808 ≤ s ∧ s ≤ 9223372036854775807) (ba : -9223372036854775808 ≤ a ∧ a ≤ 9223372036854775807) (bk : -9223372036854775808 ≤ k ∧ k ≤ 9223372036854775807) :
    Calls Try.prog 146 #[.agg #[.slice A n c, .int .i64 cur], .int .i64 s, .int .i64 a, .int .i64 k] w (GivesLayO w (PG.lay xs cur s a k)) := by
  obtain ⟨w0, hw0⟩ : ∃ w0, (w.alloc (.cells #[.slice A n c, .int .i64 cur] 153)).alloc (.cells #[.slice none 0 0, .int .i64 0] 153) = w0 := ⟨_, rfl⟩
  obtain ⟨bs, hbs⟩ : ∃ bs, w.heap.size = bs := ⟨_, rfl⟩
  have hB0 : Below w.heap.size w w0 := by rw [← hw0]; exact (by repeat (first | exact Below.refl _ _ | assumption | refine bel_drew ?_ | refine bel_drewN ?_ _ | refine bel_alloc ?_ _ | refine bel_set ?_ (by first | (dsimp only; omega) | (simp; done) | (simp; omega)) _ | refine bel_trans ?_ (by assumption)))
  have D0 : Hid (w0.cell? ⟨bs, 0, none⟩ = some (.slice A n c)) := Lib.hid (by rw [← hw0, ← hbs]; simp [go_sem])
  have D1 : Hid (w0.cell? ⟨bs, 1, none⟩ = some (.int .i64 cur)) := Lib.hid (by rw [← hw0, ← hbs]; simp [go_sem])
  have R0 : Hid (w0.cell? ⟨bs + 1, 0, none⟩ = some (.slice none 0 0)) := Lib.hid (by rw [← hw0, ← hbs]; simp [go_sem])
  have R1 : Hid (w0.cell? ⟨bs + 1, 1, none⟩ = some (.int .i64 0)) := Lib.hid (by rw [← hw0, ← hbs]; simp [go_sem])
  have F0 : Hid (w0.frozen? ⟨bs + 1, 0, none⟩ = false) := Lib.hid (by rw [← hw0, ← hbs]; simp [go_sem])
  have F1 : Hid (w0.frozen? ⟨bs + 1, 1, none⟩ = false) := Lib.hid (by rw [← hw0, ← hbs]; simp [go_sem])
  have DS : Hid (bs + 1 < w0.heap.size) := Lib.hid (by rw [← hw0, ← hbs]; simp)
  have h0 := h.keep hB0
  have K1 := page_Right c cur h0 hn
  replace hw0 := Lib.hid hw0
  have HBS := Lib.hid hbs
  have HW0 := Lib.hid hB0
  rcases hr : PG.right xs cur with _ | _
  · rw [hr] at K1
    have e : PG.lay xs cur s a k = ([], 0, 0, 0, 2) := by unfold PG.lay; rw [if_pos hr]
    rw [e]
    replace K1 := Lib.hid K1
    clear h h0 hr e hB0 hbs
    go_enter Try.func146, Try.ntmps146
    go_wp2_with fail
    rw [hw0.out, HBS.out]
    refine K1.out.mono ?_
    rintro e w5 ⟨rfl, h5⟩
    have y0 := cell_after h5 (by have := DS.out; dsimp only; omega) R0.out
    have y1 := cell_after h5 (by have := DS.out; dsimp only; omega) R1.out
    have z0 := cell_after h5 (by have := DS.out; dsimp only; omega) D0.out
    have z1 := cell_after h5 (by have := DS.out; dsimp only; omega) D1.out
    have f0 := (h5.frozen (p := ⟨bs + 1, 0, none⟩) (by have := DS.out; dsimp only; omega)).trans F0.out
    have f1 := (h5.frozen (p := ⟨bs + 1, 1, none⟩) (by have := DS.out; dsimp only; omega)).trans F1.out
    have B5 := bel_trans' HW0.out h5 HW0.out.size
    have hsz := HBS.out
    go_wp2_with fail
    have g2 : ∀ v u, ((w5.setCell ⟨bs + 1, 0, none⟩ v).setCell ⟨bs + 1, 1, none⟩ u).cell? ⟨bs + 1, 1, none⟩ = some u := fun v u => World.cell?_setCell_same _ _ _ ((World.cell?_setCell_other _ _ _ _ (by simp)).trans y1)
    have g3 : ∀ v, (w5.setCell ⟨bs + 1, 0, none⟩ v).cell? ⟨bs + 1, 0, none⟩ = some v := fun v => World.cell?_setCell_same _ _ _ y0
    refine bodyPost_ret (v := .tuple #[.agg #[.slice none 0 0, .int .i64 0], .int .i64 0, .int .i64 0, .int .i64 2]) (by simp [results, Try.results146, go_sem, g2, g3]) rfl ?_
    exact ⟨_, rfl, OwnI.nil _ _, (by repeat (first | exact Below.refl _ _ | assumption | refine bel_drew ?_ | refine bel_drewN ?_ _ | refine bel_alloc ?_ _ | refine bel_set ?_ (by first | (dsimp only; omega) | (simp; done) | (simp; omega)) _ | refine bel_trans ?_ (by assumption)))⟩
  · rw [hr] at K1
    have K2 := fun W => bump_Place cur s a k W bc bs' ba bk
    have K3 : Hid (∀ W, Below w0.heap.size w0 W → Calls Try.prog 158 #[.agg #[.slice A n c, .int .i64 cur]] W fun e w' => e = .returned (.int .i64 (PG.last xs cur)) ∧ Below W.heap.size W w') := Lib.hid (fun W hW => page_Last c cur (h0.keep hW) hn)
    have K4 : Hid (∀ W, Below w0.heap.size w0 W → Calls Try.prog 159 #[.agg #[.slice A n c, .int .i64 cur]] W (GivesP W xs cur)) := Lib.hid (fun W hW => page_own c cur (h0.keep hW) hn)
    have HL : PG.lay xs cur s a k = (if (PB.place cur s a k).2.2 ≠ 0 then ([], 0, 0, 0, (PB.place cur s a k).2.2) else if xs = [] then ([], 0, 0, 0, 9) else (xs, (PB.place cur s a k).2.1, PG.last xs cur, (PB.place cur s a k).1, 0)) := by unfold PG.lay; rw [if_neg (by rw [hr]; simp)]
    have HLA : xs = [] → PG.last xs cur = -1 := by rintro rfl; unfold PG.last; simp
    have HLB : xs ≠ [] → 0 ≤ PG.last xs cur := by
      intro hx
      unfold PG.last
      rw [hr, decide_eq_true hx]
      have hlen : 0 < xs.length := List.length_pos_iff.2 hx
      have := ((PG.right_iff.1 hr).2.2 (xs.length - 1) (by omega)).1
      simpa using ((PG.fit_iff _).1 this).1
    generalize PB.place cur s a k = pl at *
    obtain ⟨p1, p2, p3⟩ := pl
    dsimp only at HL K2
    generalize PG.last xs cur = la at *
    generalize PG.lay xs cur s a k = LY at *
    replace K1 := Lib.hid K1
    replace K2 := Lib.hid K2
    clear h h0 hB0 hbs hr
    by_cases hp3 : p3 = 0
    · subst hp3
      rw [if_neg (by simp)] at HL
      by_cases hx : xs = []
      · rw [if_pos hx] at HL
        have hla := HLA hx
        subst HL hla
        clear HLA HLB K4 hx
        go_enter Try.func146, Try.ntmps146
        go_wp2_with fail
        rw [hw0.out, HBS.out]
        refine K1.out.mono ?_
        rintro e w5 ⟨rfl, h5⟩
        have y0 := cell_after h5 (by have := DS.out; dsimp only; omega) R0.out
        have y1 := cell_after h5 (by have := DS.out; dsimp only; omega) R1.out
        have z0 := cell_after h5 (by have := DS.out; dsimp only; omega) D0.out
        have z1 := cell_after h5 (by have := DS.out; dsimp only; omega) D1.out
        have f0 := (h5.frozen (p := ⟨bs + 1, 0, none⟩) (by have := DS.out; dsimp only; omega)).trans F0.out
        have f1 := (h5.frozen (p := ⟨bs + 1, 1, none⟩) (by have := DS.out; dsimp only; omega)).trans F1.out
        go_wp2_with fail
        refine (K2.out _).mono ?_
        rintro e w6 ⟨rfl, rfl⟩
        go_wp2_with fail
        refine (K3.out _ h5).mono ?_
        rintro e w7 ⟨rfl, h7⟩
        have h5b := bel_trans h5 h7
        clear z0 z1 y0 y1 f0 f1
        have y0 := cell_after h5b (by have := DS.out; dsimp only; omega) R0.out
        have y1 := cell_after h5b (by have := DS.out; dsimp only; omega) R1.out
        have z0 := cell_after h5b (by have := DS.out; dsimp only; omega) D0.out
        have z1 := cell_after h5b (by have := DS.out; dsimp only; omega) D1.out
        have f0 := (h5b.frozen (p := ⟨bs + 1, 0, none⟩) (by have := DS.out; dsimp only; omega)).trans F0.out
        have f1 := (h5b.frozen (p := ⟨bs + 1, 1, none⟩) (by have := DS.out; dsimp only; omega)).trans F1.out
        have B5 := bel_trans' HW0.out h5b HW0.out.size
        have hsz := HBS.out
        go_wp2_with fail
        have g2 : ∀ v u, ((w7.setCell ⟨bs + 1, 0, none⟩ v).setCell ⟨bs + 1, 1, none⟩ u).cell? ⟨bs + 1, 1, none⟩ = some u := fun v u => World.cell?_setCell_same _ _ _ ((World.cell?_setCell_other _ _ _ _ (by simp)).trans y1)
        have g3 : ∀ v, (w7.setCell ⟨bs + 1, 0, none⟩ v).cell? ⟨bs + 1, 0, none⟩ = some v := fun v => World.cell?_setCell_same _ _ _ y0
        refine bodyPost_ret (v := .tuple #[.agg #[.slice none 0 0, .int .i64 0], .int .i64 0, .int .i64 0, .int .i64 9]) (by simp [results, Try.results146, go_sem, g2, g3]) rfl ?_
        exact ⟨_, rfl, OwnI.nil _ _, (by repeat (first | exact Below.refl _ _ | assumption | refine bel_drew ?_ | refine bel_drewN ?_ _ | refine bel_alloc ?_ _ | refine bel_set ?_ (by first | (dsimp only; omega) | (simp; done) | (simp; omega)) _ | refine bel_trans ?_ (by assumption)))⟩
      · rw [if_neg hx] at HL
        have hla := HLB hx
        have q3 : decide (la < 0) = false := by simpa using hla
        subst HL
        clear HLA HLB hx
        go_enter Try.func146, Try.ntmps146
        go_wp2_with fail
        rw [hw0.out, HBS.out]
        refine K1.out.mono ?_
        rintro e w5 ⟨rfl, h5⟩
        have y0 := cell_after h5 (by have := DS.out; dsimp only; omega) R0.out
        have y1 := cell_after h5 (by have := DS.out; dsimp only; omega) R1.out
        have z0 := cell_after h5 (by have := DS.out; dsimp only; omega) D0.out
        have z1 := cell_after h5 (by have := DS.out; dsimp only; omega) D1.out
        have f0 := (h5.frozen (p := ⟨bs + 1, 0, none⟩) (by have := DS.out; dsimp only; omega)).trans F0.out
        have f1 := (h5.frozen (p := ⟨bs + 1, 1, none⟩) (by have := DS.out; dsimp only; omega)).trans F1.out
        go_wp2_with fail
        refine (K2.out _).mono ?_
        rintro e w6 ⟨rfl, rfl⟩
        go_wp2_with fail
        refine (K3.out _ h5).mono ?_
        rintro e w7 ⟨rfl, h7⟩
        have h5b := bel_trans h5 h7
        clear z0 z1 y0 y1 f0 f1
        have y0 := cell_after h5b (by have := DS.out; dsimp only; omega) R0.out
        have y1 := cell_after h5b (by have := DS.out; dsimp only; omega) R1.out
        have z0 := cell_after h5b (by have := DS.out; dsimp only; omega) D0.out
        have z1 := cell_after h5b (by have := DS.out; dsimp only; omega) D1.out
        have f0 := (h5b.frozen (p := ⟨bs + 1, 0, none⟩) (by have := DS.out; dsimp only; omega)).trans F0.out
        have f1 := (h5b.frozen (p := ⟨bs + 1, 1, none⟩) (by have := DS.out; dsimp only; omega)).trans F1.out
        go_wp2_with fail
        refine (K4.out _ h5b).mono ?_
        rintro e w8 ⟨v8, rfl, ho8, h8⟩
        obtain ⟨A8, c8, rfl, i8, hlc, hcm⟩ := ho8.ints
        have h8b := bel_trans h5b h8
        clear z0 z1 y0 y1 f0 f1
        have y0 := cell_after h8b (by have := DS.out; dsimp only; omega) R0.out
        have y1 := cell_after h8b (by have := DS.out; dsimp only; omega) R1.out
        have z0 := cell_after h8b (by have := DS.out; dsimp only; omega) D0.out
        have z1 := cell_after h8b (by have := DS.out; dsimp only; omega) D1.out
        have f0 := (h8b.frozen (p := ⟨bs + 1, 0, none⟩) (by have := DS.out; dsimp only; omega)).trans F0.out
        have f1 := (h8b.frozen (p := ⟨bs + 1, 1, none⟩) (by have := DS.out; dsimp only; omega)).trans F1.out
        have B5 := bel_trans' HW0.out h8b HW0.out.size
        have hsz := HBS.out
        have O8 := Lib.hid ho8
        have sz7 := Nat.lt_of_lt_of_le DS.out h5b.size
        have sz8 := Nat.lt_of_lt_of_le DS.out h8b.size
        clear i8 ho8
        go_wp2_with fail
        have g2 : ∀ v u, ((w8.setCell ⟨bs + 1, 0, none⟩ v).setCell ⟨bs + 1, 1, none⟩ u).cell? ⟨bs + 1, 1, none⟩ = some u := fun v u => World.cell?_setCell_same _ _ _ ((World.cell?_setCell_other _ _ _ _ (by simp)).trans y1)
        have g3 : ∀ v, (w8.setCell ⟨bs + 1, 0, none⟩ v).cell? ⟨bs + 1, 0, none⟩ = some v := fun v => World.cell?_setCell_same _ _ _ y0
        have g5 : ∀ v u o, (((w8.setCell ⟨bs + 1, 0, none⟩ v).setCell ⟨bs + 1, 1, none⟩ u).alloc o).cell? ⟨bs + 1, 1, none⟩ = some u := fun v u o => cell_alloc _ (by simp; omega) (g2 v u)
        have g6 : ∀ v u o, (((w8.setCell ⟨bs + 1, 0, none⟩ v).setCell ⟨bs + 1, 1, none⟩ u).alloc o).cell? ⟨bs + 1, 0, none⟩ = some v := fun v u o => cell_alloc _ (by simp; omega) ((World.cell?_setCell_other _ _ _ _ (by simp)).trans (g3 v))
        refine bodyPost_ret (v := .tuple #[.agg #[.slice A8 xs.length c8, .int .i64 p2], .int .i64 la, .int .i64 p1, .int .i64 0]) (by simp [results, Try.results146, go_sem, g2, g3, g5, g6]) rfl ?_
        refine ⟨_, rfl, ?_, (by repeat (first | exact Below.refl _ _ | assumption | refine bel_drew ?_ | refine bel_drewN ?_ _ | refine bel_alloc ?_ _ | refine bel_set ?_ (by first | (dsimp only; omega) | (simp; done) | (simp; omega)) _ | refine bel_trans ?_ (by assumption)))⟩
        exact OwnI.mono (((O8.out.keepSet _ _ (by dsimp only; omega)).keepSet _ _ (by dsimp only; omega)).keep (bel_alloc (Below.refl _ _) _)) (by omega)
    · rw [if_pos hp3] at HL
      have q1 : (p3 == 0) = false := by simpa using hp3
      have q2 : (p3 != 0) = true := by simpa using hp3
      subst HL
      clear HLA HLB K4 hp3
      go_enter Try.func146, Try.ntmps146
      go_wp2_with fail
      rw [hw0.out, HBS.out]
      refine K1.out.mono ?_
      rintro e w5 ⟨rfl, h5⟩
      have y0 := cell_after h5 (by have := DS.out; dsimp only; omega) R0.out
      have y1 := cell_after h5 (by have := DS.out; dsimp only; omega) R1.out
      have z0 := cell_after h5 (by have := DS.out; dsimp only; omega) D0.out
      have z1 := cell_after h5 (by have := DS.out; dsimp only; omega) D1.out
      have f0 := (h5.frozen (p := ⟨bs + 1, 0, none⟩) (by have := DS.out; dsimp only; omega)).trans F0.out
      have f1 := (h5.frozen (p := ⟨bs + 1, 1, none⟩) (by have := DS.out; dsimp only; omega)).trans F1.out
      go_wp2_with fail
      refine (K2.out _).mono ?_
      rintro e w6 ⟨rfl, rfl⟩
      go_wp2_with fail
      refine (K3.out _ h5).mono ?_
      rintro e w7 ⟨rfl, h7⟩
      have h5b := bel_trans h5 h7
      clear z0 z1 y0 y1 f0 f1
      have y0 := cell_after h5b (by have := DS.out; dsimp only; omega) R0.out
      have y1 := cell_after h5b (by have := DS.out; dsimp only; omega) R1.out
      have z0 := cell_after h5b (by have := DS.out; dsimp only; omega) D0.out
      have z1 := cell_after h5b (by have := DS.out; dsimp only; omega) D1.out
      have f0 := (h5b.frozen (p := ⟨bs + 1, 0, none⟩) (by have := DS.out; dsimp only; omega)).trans F0.out
      have f1 := (h5b.frozen (p := ⟨bs + 1, 1, none⟩) (by have := DS.out; dsimp only; omega)).trans F1.out
      have B5 := bel_trans' HW0.out h5b HW0.out.size
      have hsz := HBS.out
      go_wp2_with fail
      have g2 : ∀ v u, ((w7.setCell ⟨bs + 1, 0, none⟩ v).setCell ⟨bs + 1, 1, none⟩ u).cell? ⟨bs + 1, 1, none⟩ = some u := fun v u => World.cell?_setCell_same _ _ _ ((World.cell?_setCell_other _ _ _ _ (by simp)).trans y1)
      have g3 : ∀ v, (w7.setCell ⟨bs + 1, 0, none⟩ v).cell? ⟨bs + 1, 0, none⟩ = some v := fun v => World.cell?_setCell_same _ _ _ y0
      refine bodyPost_ret (v := .tuple #[.agg #[.slice none 0 0, .int .i64 0], .int .i64 0, .int .i64 0, .int .i64 p3]) (by simp [results, Try.results146, go_sem, g2, g3]) rfl ?_
      exact ⟨_, rfl, OwnI.nil _ _, (by repeat (first | exact Below.refl _ _ | assumption | refine bel_drew ?_ | refine bel_drewN ?_ _ | refine bel_alloc ?_ _ | refine bel_set ?_ (by first | (dsimp only; omega) | (simp; done) | (simp; omega)) _ | refine bel_trans ?_ (by assumption)))⟩
set_option maxRecDepth 100000 in
set_option maxHeartbeats 8000000 in
theorem page_AddO {A : Option Addr} {n : Nat} {xs : List Int} (c : Nat) (cur i : Int) {w : World} (h : IntsAt w A n xs) (hn : n ≤ 100000) :
    Calls Try.prog 148 #[.agg #[.slice A n c, .int .i64 cur], .int .i64 i] w (GivesAddO w (PG.add xs cur i)) := by
  obtain ⟨w0, hw0⟩ : ∃ w0, (w.alloc (.cells #[.slice A n c, .int .i64 cur] 153)).alloc (.cells #[.slice none 0 0, .int .i64 0] 153) = w0 := ⟨_, rfl⟩
  obtain ⟨bs, hbs⟩ : ∃ bs, w.heap.size = bs := ⟨_, rfl⟩
  have hB0 : Below w.heap.size w w0 := by rw [← hw0]; exact (by repeat (first | exact Below.refl _ _ | assumption | refine bel_drew ?_ | refine bel_drewN ?_ _ | refine bel_alloc ?_ _ | refine bel_set ?_ (by first | (dsimp only; omega) | (simp; done) | (simp; omega)) _ | refine bel_trans ?_ (by assumption)))
  have D0 : Hid (w0.cell? ⟨bs, 0, none⟩ = some (.slice A n c)) := Lib.hid (by rw [← hw0, ← hbs]; simp [go_sem])
  have D1 : Hid (w0.cell? ⟨bs, 1, none⟩ = some (.int .i64 cur)) := Lib.hid (by rw [← hw0, ← hbs]; simp [go_sem])
  have R0 : Hid (w0.cell? ⟨bs + 1, 0, none⟩ = some (.slice none 0 0)) := Lib.hid (by rw [← hw0, ← hbs]; simp [go_sem])
  have R1 : Hid (w0.cell? ⟨bs + 1, 1, none⟩ = some (.int .i64 0)) := Lib.hid (by rw [← hw0, ← hbs]; simp [go_sem])
  have F0 : Hid (w0.frozen? ⟨bs + 1, 0, none⟩ = false) := Lib.hid (by rw [← hw0, ← hbs]; simp [go_sem])
  have F1 : Hid (w0.frozen? ⟨bs + 1, 1, none⟩ = false) := Lib.hid (by rw [← hw0, ← hbs]; simp [go_sem])
  have DS : Hid (bs + 1 < w0.heap.size) := Lib.hid (by rw [← hw0, ← hbs]; simp)
  have h0 := h.keep hB0
  have K1 := page_Right c cur h0 hn
  have K2 := fun W => page_is i W
  have HLN : Hid (xs.length + 1 ≤ 1048576) := Lib.hid (by have := h.1; omega)
  have K3 : Hid (∀ W, Below w0.heap.size w0 W → Calls Try.prog 137 #[.slice A n c, .int .i64 i] W fun e w' => e = .returned (.bool (decide (i ∈ xs))) ∧ Below W.heap.size W w') := Lib.hid (fun W hW => slices_ContainsI c i (h0.keep hW))
  have K4 : Hid (∀ W, Below w0.heap.size w0 W → Calls Try.prog 159 #[.agg #[.slice A n c, .int .i64 cur]] W (GivesP W xs cur)) := Lib.hid (fun W hW => page_own c cur (h0.keep hW) hn)
  replace hw0 := Lib.hid hw0
  have HBS := Lib.hid hbs
  have HW0 := Lib.hid hB0
  have HL : PG.add xs cur i = (if PG.right xs cur = false ∨ PG.fit i = false then ([], 2) else if i ∈ xs then ([], 19) else (xs ++ [i], 0)) := rfl
  generalize PG.add xs cur i = LY at *
  rcases hr : PG.right xs cur with _ | _
  · rw [hr] at K1
    rw [if_pos (Or.inl hr)] at HL
    subst HL
    replace K1 := Lib.hid K1
    clear h h0 hr hB0 hbs K2 K3 K4
    go_enter Try.func148, Try.ntmps148
    go_wp2_with fail
    rw [hw0.out, HBS.out]
    refine K1.out.mono ?_
    rintro e w5 ⟨rfl, h5⟩
    have y0 := cell_after h5 (by have := DS.out; dsimp only; omega) R0.out
    have y1 := cell_after h5 (by have := DS.out; dsimp only; omega) R1.out
    have z0 := cell_after h5 (by have := DS.out; dsimp only; omega) D0.out
    have z1 := cell_after h5 (by have := DS.out; dsimp only; omega) D1.out
    have f0 := (h5.frozen (p := ⟨bs + 1, 0, none⟩) (by have := DS.out; dsimp only; omega)).trans F0.out
    have f1 := (h5.frozen (p := ⟨bs + 1, 1, none⟩) (by have := DS.out; dsimp only; omega)).trans F1.out
    have B5 := bel_trans' HW0.out h5 HW0.out.size
    have hsz := HBS.out
    go_wp2_with fail
    have g2 : ∀ v u, ((w5.setCell ⟨bs + 1, 0, none⟩ v).setCell ⟨bs + 1, 1, none⟩ u).cell? ⟨bs + 1, 1, none⟩ = some u := fun v u => World.cell?_setCell_same _ _ _ ((World.cell?_setCell_other _ _ _ _ (by simp)).trans y1)
    have g3 : ∀ v, (w5.setCell ⟨bs + 1, 0, none⟩ v).cell? ⟨bs + 1, 0, none⟩ = some v := fun v => World.cell?_setCell_same _ _ _ y0
    refine bodyPost_ret (v := .tuple #[.agg #[.slice none 0 0, .int .i64 0], .int .i64 2]) (by simp [results, Try.results148, go_sem, g2, g3]) rfl ?_
    exact ⟨_, rfl, OwnI.nil _ _, (by repeat (first | exact Below.refl _ _ | assumption | refine bel_drew ?_ | refine bel_drewN ?_ _ | refine bel_alloc ?_ _ | refine bel_set ?_ (by first | (dsimp only; omega) | (simp; done) | (simp; omega)) _ | refine bel_trans ?_ (by assumption)))⟩
  rw [hr] at K1
  rcases hf : PG.fit i with _ | _
  · rw [if_pos (Or.inr hf)] at HL
    subst HL
    rw [hf] at K2
    replace K1 := Lib.hid K1
    replace K2 := Lib.hid K2
    clear h h0 hr hB0 hbs K3 K4 hf
    go_enter Try.func148, Try.ntmps148
    go_wp2_with fail
    rw [hw0.out, HBS.out]
    refine K1.out.mono ?_
    rintro e w5 ⟨rfl, h5⟩
    have y0 := cell_after h5 (by have := DS.out; dsimp only; omega) R0.out
    have y1 := cell_after h5 (by have := DS.out; dsimp only; omega) R1.out
    have z0 := cell_after h5 (by have := DS.out; dsimp only; omega) D0.out
    have z1 := cell_after h5 (by have := DS.out; dsimp only; omega) D1.out
    have f0 := (h5.frozen (p := ⟨bs + 1, 0, none⟩) (by have := DS.out; dsimp only; omega)).trans F0.out
    have f1 := (h5.frozen (p := ⟨bs + 1, 1, none⟩) (by have := DS.out; dsimp only; omega)).trans F1.out
    have B5 := bel_trans' HW0.out h5 HW0.out.size
    have hsz := HBS.out
    go_wp2_with fail
    refine (K2.out _).mono ?_
    rintro e w6 ⟨rfl, rfl⟩
    go_wp2_with fail
    have g2 : ∀ v u, ((w5.setCell ⟨bs + 1, 0, none⟩ v).setCell ⟨bs + 1, 1, none⟩ u).cell? ⟨bs + 1, 1, none⟩ = some u := fun v u => World.cell?_setCell_same _ _ _ ((World.cell?_setCell_other _ _ _ _ (by simp)).trans y1)
    have g3 : ∀ v, (w5.setCell ⟨bs + 1, 0, none⟩ v).cell? ⟨bs + 1, 0, none⟩ = some v := fun v => World.cell?_setCell_same _ _ _ y0
    refine bodyPost_ret (v := .tuple #[.agg #[.slice none 0 0, .int .i64 0], .int .i64 2]) (by simp [results, Try.results148, go_sem, g2, g3]) rfl ?_
    exact ⟨_, rfl, OwnI.nil _ _, (by repeat (first | exact Below.refl _ _ | assumption | refine bel_drew ?_ | refine bel_drewN ?_ _ | refine bel_alloc ?_ _ | refine bel_set ?_ (by first | (dsimp only; omega) | (simp; done) | (simp; omega)) _ | refine bel_trans ?_ (by assumption)))⟩
  rw [hf] at K2
  rw [if_neg (by rw [hr, hf]; simp)] at HL
  replace K1 := Lib.hid K1
  replace K2 := Lib.hid K2
  by_cases hm : i ∈ xs
  · rw [if_pos hm] at HL
    subst HL
    rw [decide_eq_true hm] at K3
    clear h h0 hr hB0 hbs K4 hf hm
    go_enter Try.func148, Try.ntmps148
    go_wp2_with fail
    rw [hw0.out, HBS.out]
    refine K1.out.mono ?_
    rintro e w5 ⟨rfl, h5⟩
    have y0 := cell_after h5 (by have := DS.out; dsimp only; omega) R0.out
    have y1 := cell_after h5 (by have := DS.out; dsimp only; omega) R1.out
    have z0 := cell_after h5 (by have := DS.out; dsimp only; omega) D0.out
    have z1 := cell_after h5 (by have := DS.out; dsimp only; omega) D1.out
    have f0 := (h5.frozen (p := ⟨bs + 1, 0, none⟩) (by have := DS.out; dsimp only; omega)).trans F0.out
    have f1 := (h5.frozen (p := ⟨bs + 1, 1, none⟩) (by have := DS.out; dsimp only; omega)).trans F1.out
    go_wp2_with fail
    refine (K2.out _).mono ?_
    rintro e w6 ⟨rfl, rfl⟩
    go_wp2_with fail
    refine (K3.out _ h5).mono ?_
    rintro e w7 ⟨rfl, h7⟩
    have h5b := bel_trans h5 h7
    clear z0 z1 y0 y1 f0 f1
    have y0 := cell_after h5b (by have := DS.out; dsimp only; omega) R0.out
    have y1 := cell_after h5b (by have := DS.out; dsimp only; omega) R1.out
    have z0 := cell_after h5b (by have := DS.out; dsimp only; omega) D0.out
    have z1 := cell_after h5b (by have := DS.out; dsimp only; omega) D1.out
    have f0 := (h5b.frozen (p := ⟨bs + 1, 0, none⟩) (by have := DS.out; dsimp only; omega)).trans F0.out
    have f1 := (h5b.frozen (p := ⟨bs + 1, 1, none⟩) (by have := DS.out; dsimp only; omega)).trans F1.out
    have B5 := bel_trans' HW0.out h5b HW0.out.size
    have hsz := HBS.out
    go_wp2_with fail
    have g2 : ∀ v u, ((w7.setCell ⟨bs + 1, 0, none⟩ v).setCell ⟨bs + 1, 1, none⟩ u).cell? ⟨bs + 1, 1, none⟩ = some u := fun v u => World.cell?_setCell_same _ _ _ ((World.cell?_setCell_other _ _ _ _ (by simp)).trans y1)
    have g3 : ∀ v, (w7.setCell ⟨bs + 1, 0, none⟩ v).cell? ⟨bs + 1, 0, none⟩ = some v := fun v => World.cell?_setCell_same _ _ _ y0
    refine bodyPost_ret (v := .tuple #[.agg #[.slice none 0 0, .int .i64 0], .int .i64 19]) (by simp [results, Try.results148, go_sem, g2, g3]) rfl ?_
    exact ⟨_, rfl, OwnI.nil _ _, (by repeat (first | exact Below.refl _ _ | assumption | refine bel_drew ?_ | refine bel_drewN ?_ _ | refine bel_alloc ?_ _ | refine bel_set ?_ (by first | (dsimp only; omega) | (simp; done) | (simp; omega)) _ | refine bel_trans ?_ (by assumption)))⟩
  · rw [if_neg hm] at HL
    subst HL
    rw [decide_eq_false hm] at K3
    clear h h0 hr hB0 hbs hf hm
    go_enter Try.func148, Try.ntmps148
    go_wp2_with fail
    rw [hw0.out, HBS.out]
    refine K1.out.mono ?_
    rintro e w5 ⟨rfl, h5⟩
    have y0 := cell_after h5 (by have := DS.out; dsimp only; omega) R0.out
    have y1 := cell_after h5 (by have := DS.out; dsimp only; omega) R1.out
    have z0 := cell_after h5 (by have := DS.out; dsimp only; omega) D0.out
    have z1 := cell_after h5 (by have := DS.out; dsimp only; omega) D1.out
    have f0 := (h5.frozen (p := ⟨bs + 1, 0, none⟩) (by have := DS.out; dsimp only; omega)).trans F0.out
    have f1 := (h5.frozen (p := ⟨bs + 1, 1, none⟩) (by have := DS.out; dsimp only; omega)).trans F1.out
    go_wp2_with fail
    refine (K2.out _).mono ?_
    rintro e w6 ⟨rfl, rfl⟩
    go_wp2_with fail
    refine (K3.out _ h5).mono ?_
    rintro e w7 ⟨rfl, h7⟩
    have h5b := bel_trans h5 h7
    clear z0 z1 y0 y1 f0 f1
    have y0 := cell_after h5b (by have := DS.out; dsimp only; omega) R0.out
    have y1 := cell_after h5b (by have := DS.out; dsimp only; omega) R1.out
    have z0 := cell_after h5b (by have := DS.out; dsimp only; omega) D0.out
    have z1 := cell_after h5b (by have := DS.out; dsimp only; omega) D1.out
    have f0 := (h5b.frozen (p := ⟨bs + 1, 0, none⟩) (by have := DS.out; dsimp only; omega)).trans F0.out
    have f1 := (h5b.frozen (p := ⟨bs + 1, 1, none⟩) (by have := DS.out; dsimp only; omega)).trans F1.out
    go_wp2_with fail
    refine (K4.out _ h5b).mono ?_
    rintro e w8 ⟨v8, rfl, ho8, h8⟩
    obtain ⟨A8, c8, rfl, i8, hlc, hcm⟩ := ho8.ints
    have h8b := bel_trans h5b h8
    clear z0 z1 y0 y1 f0 f1
    have y0 := cell_after h8b (by have := DS.out; dsimp only; omega) R0.out
    have y1 := cell_after h8b (by have := DS.out; dsimp only; omega) R1.out
    have z0 := cell_after h8b (by have := DS.out; dsimp only; omega) D0.out
    have z1 := cell_after h8b (by have := DS.out; dsimp only; omega) D1.out
    have f0 := (h8b.frozen (p := ⟨bs + 1, 0, none⟩) (by have := DS.out; dsimp only; omega)).trans F0.out
    have f1 := (h8b.frozen (p := ⟨bs + 1, 1, none⟩) (by have := DS.out; dsimp only; omega)).trans F1.out
    have B5 := bel_trans' HW0.out h8b HW0.out.size
    have hsz := HBS.out
    have O8 := Lib.hid ho8
    have sz7 := Nat.lt_of_lt_of_le DS.out h5b.size
    have sz78 := h8.size
    clear i8 ho8
    go_wp2_with (at_builtin; (refine app_listI rfl (.tmp 26) (.tmp 28) rfl w7.heap.size _ xs rfl (O8.out.keep (by exact (by repeat (first | exact Below.refl _ _ | assumption | refine bel_drew ?_ | refine bel_drewN ?_ _ | refine bel_alloc ?_ _ | refine bel_set ?_ (by first | (dsimp only; omega) | (simp; done) | (simp; omega)) _ | refine bel_trans ?_ (by assumption))))) (some ⟨w8.heap.size + 1, 0, none⟩) 1 1 [i] rfl (src_oneI (by simp [go_sem])) HLN.out (by first | omega | (dsimp only; omega) | (simp; omega) | (dsimp only; simp; omega)) ?_; intro v9 w9 ho9 hb9; obtain ⟨A9, c9, rfl, _⟩ := ho9.ints; replace ho9 := Lib.hid ho9; have B9 := bel_trans' (show Below w.heap.size w _ from (by repeat (first | exact Below.refl _ _ | assumption | refine bel_drew ?_ | refine bel_drewN ?_ _ | refine bel_alloc ?_ _ | refine bel_set ?_ (by first | (dsimp only; omega) | (simp; done) | (simp; omega)) _ | refine bel_trans ?_ (by assumption)))) hb9 (by omega); have q8 := bel_alloc (bel_alloc (Below.refl w8.heap.size w8) (.cells #[.slice A8 xs.length c8, .int .i64 cur] 153)) (.cells #[.int .i64 i] 3); have hs8 : bs + 1 < w8.heap.size := (by omega); have hs7 : bs + 1 < w7.heap.size := (by omega); have Y0 := (hb9.cell (p := ⟨bs + 1, 0, none⟩) hs7).trans (cell_after q8 hs8 y0); have Y1 := (hb9.cell (p := ⟨bs + 1, 1, none⟩) hs7).trans (cell_after q8 hs8 y1); have G0 := (hb9.frozen (p := ⟨bs + 1, 0, none⟩) hs7).trans ((q8.frozen (p := ⟨bs + 1, 0, none⟩) hs8).trans f0); have G1 := (hb9.frozen (p := ⟨bs + 1, 1, none⟩) hs7).trans ((q8.frozen (p := ⟨bs + 1, 1, none⟩) hs8).trans f1)))
    have g2 : ∀ v u, ((w9.setCell ⟨bs + 1, 0, none⟩ v).setCell ⟨bs + 1, 1, none⟩ u).cell? ⟨bs + 1, 1, none⟩ = some u := fun v u => World.cell?_setCell_same _ _ _ ((World.cell?_setCell_other _ _ _ _ (by simp)).trans Y1)
    have g3 : ∀ v, (w9.setCell ⟨bs + 1, 0, none⟩ v).cell? ⟨bs + 1, 0, none⟩ = some v := fun v => World.cell?_setCell_same _ _ _ Y0
    refine bodyPost_ret (v := .tuple #[.agg #[.slice A9 (xs ++ [i]).length c9, .int .i64 0], .int .i64 0]) (by simp [results, Try.results148, go_sem, g2, g3]) rfl ?_
    exact ⟨_, by first | rfl | (simp; done), OwnI.mono ((ho9.out.keepSet _ _ (by dsimp only; omega)).keepSet _ _ (by dsimp only; omega)) (by omega), (by repeat (first | exact Below.refl _ _ | assumption | refine bel_drew ?_ | refine bel_drewN ?_ _ | refine bel_alloc ?_ _ | refine bel_set ?_ (by first | (dsimp only; omega) | (simp; done) | (simp; omega)) _ | refine bel_trans ?_ (by assumption)))⟩
end Go.Proofs.Ytdhcmnbajkpjiaa
/-
  Layer 40 (region): Lay, Add.
-/
namespace Go.Proofs.Ytdhcmnbajkpjiaa
open Go.RowKit
set_option linter.unusedVariables false
set_option linter.unusedSimpArgs false
attribute [local go_sem] drewN_alloc drewN_setCell

variable {w0 w w' : World} {tb : Nat} {O : Nat → Prop} {N : List Nat} {S : FSt} {k : Nat} {st : Int → Option (Int × List Int × Int)}
/-- A region's pages are set. -/
def stSet (st : Int → Option (Int × List Int × Int)) (q : Int) (c : Int) (l : List Int) (cur : Int) : Int → Option (Int × List Int × Int) := fun z => if z = q then some (c, l, cur) else st z
theorem TreesOver.put {mb Fb q : Nat} {own : Nat → Prop} {f : Int → Option Value} {w1 w2 : World} {c cur : Int} {l : List Int} {v : Value} (h : TreesOver w0 w tb O N S k st) (h0 : TreesAt w0 w tb mb Fb own S k f st) (h1 : O tb) (h2 : O mb) (h3 : ∀ j, own j → O j) (h4 : ∀ x c v cur, f x = some (regV c v cur) → ∀ j, v.ownBlock = some j → O j)
    (hb : Below w.heap.size w w1) (ho : OwnI w.heap.size w1 v l) (hm : RMapAt w2 mb (k + 1) (fun z => if z = (q : Int) then some (regV c v cur) else f z)) (hc : Chg (fun j => j = mb) w1 w2) :
    TreesStep w0 w tb O N S (k + 1) (stSet st (q : Int) c l cur) w2 := by
  have hB : w0.heap.size ≤ w.heap.size := h0.forest.below.size
  have t1 := h0.keep hb
  have t2 := t1.put hm hc rfl (ho.mono hB) (fun j e => by
    have := (ho.ltB j e).1
    have e1 := h0.row.lt
    have e2 := h0.map.lt
    exact ⟨by omega, by omega, fun e3 => by have := (h0.forest.fresh j e3).2; omega⟩)
  refine h.step (mb := mb) (Fb := Fb) (own := own) ((Chg.of_below hb).trans (hc.mono (fun j _ hj => by rw [hj]; exact h2))) t2 h1 (.inl h2) (fun j hj => .inl (h3 j hj)) (fun x c' v' cur' e j hj => ?_) h.ord h.rel
  split at e
  · obtain ⟨-, rfl, -⟩ := regV_inj (Option.some.inj e)
    exact .inr (ho.ltB j hj).1
  · exact .inl (h4 x c' v' cur' e j hj)
set_option maxRecDepth 100000 in
set_option maxHeartbeats 8000000 in
theorem region_Lay (r s a : Int) (q : Nat) {c cur : Int} {l : List Int} (hl : -9223372036854775808 ≤ r) (hm : r ≤ 9223372036854775807) (hk : k < 100000) (h : TreesOver w0 w tb O N S k st) (hr : findV S r = ((q : Int), 0)) (hst : st (q : Int) = some (c, l, cur)) (hll : l.length ≤ 100000)
    (bc : -9223372036854775808 ≤ cur ∧ cur ≤ 9223372036854775807) (bs : -9223372036854775808 ≤ s ∧ s ≤ 9223372036854775807) (ba : -9223372036854775808 ≤ a ∧ a ≤ 9223372036854775807) (he : (PG.lay l cur s a 64).2.2.2.2 = 0) :
    Calls Try.prog 92 #[.pointer (some ⟨tb, 0, none⟩), .int .i64 r, .int .i64 s, .int .i64 a, .int .i64 64] w fun e w' => e = .returned (.tuple #[.int .i64 (PG.lay l cur s a 64).2.2.1, .int .i64 (PG.lay l cur s a 64).2.2.2.1, .int .i64 0]) ∧ TreesStep w0 w tb O N S (k + 1) (stSet st (q : Int) c (PG.lay l cur s a 64).1 (PG.lay l cur s a 64).2.1) w' := by
  obtain ⟨mb, Fb, own, f, h0, h1, h2, h3, h4⟩ := h.ex
  have K1 := region_find r hl hm h0
  rw [hr] at K1
  replace K1 := Lib.hid K1
  have hin := find_in hr
  have hqO : q ∈ S.O := in_ints.1 hin
  have hql : q < 4096 := h0.forest.fi.lt hqO
  obtain ⟨v, hv1, hv2, hv3⟩ := h0.tell hst
  obtain ⟨A, cc, rfl, hi, hcc, hcm⟩ := hv2.ints
  obtain ⟨n, hn⟩ : ∃ n, l.length = n := ⟨_, rfl⟩
  rw [hn] at hi hcc hv1 hv2 hv3 hll
  have bq : BdI (q : Int) := ⟨by omega, by omega⟩
  have KL : Hid (∀ W, Below w.heap.size w W → (Instr.lookup 118 (.map (some mb)) (.int .i64 (q : Int)) false).run Try.prog W = .ok (.agg #[.int .i64 c, .slice A n cc, .int .i64 cur]) W) := Lib.hid (fun W hW => by
    have := (h0.keep hW).map.look0 (q : Int) bq
    rw [hv1] at this
    exact this)
  have HF := Lib.hid hv1
  have H := Lib.hid h
  have H0 := Lib.hid h0
  have HO := Lib.hid (And.intro h1 (And.intro h2 (And.intro h3 h4)))
  have KP : Hid (∀ W, Below w.heap.size w W → Calls Try.prog 146 #[.agg #[.slice A n cc, .int .i64 cur], .int .i64 s, .int .i64 a, .int .i64 64] W (GivesLayO W (PG.lay l cur s a 64))) := Lib.hid (fun W hW => page_LayO cc cur s a 64 (hi.keep hW) hll bc bs ba (by omega))
  obtain ⟨⟨l', cur', i, p, er⟩, hE⟩ : ∃ E, PG.lay l cur s a 64 = E := ⟨_, rfl⟩
  rw [hE] at KP he ⊢
  dsimp only at he ⊢
  subst he
  have KS : Hid (∀ W A' n' c', Below w.heap.size w W → Calls Try.prog 147 #[.pointer (some ⟨tb, 0, none⟩), .int .i64 (q : Int), .agg #[.slice A' n' c', .int .i64 cur']] W _) := Lib.hid (fun W A' n' c' hW => region_set (A' := A') (n' := n') (c2 := c') (q : Int) c cur cur' bq hk (h0.keep hW).row (h0.keep hW).map h0.far.1 hv1)
  clear h h0 h1 h2 h3 h4 bq hin hqO hql hv1 hv2 hv3 hr hst hi hn hE hll hcc hcm
  go_enter Try.func92, Try.ntmps92
  go_wp2_with fail
  refine K1.out.mono ?_
  rintro e wa ⟨rfl, b1⟩
  have la := KL.out wa b1
  have d1 : wa.cell? ⟨tb, 1, none⟩ = some (.map (some mb)) := (((H0.out.keep b1).row).cell 1).trans rfl
  have hf1 := run_field1 c cur (.slice A n cc) wa
  have B1 := Lib.hid b1
  clear b1
  go_wp2_with fail
  refine (KP.out wa B1.out).mono ?_
  rintro e wp ⟨v', rfl, o2, b2⟩
  obtain ⟨A', c', rfl, _⟩ := o2.ints
  have O2 := Lib.hid o2
  have B2 := Lib.hid (bel_trans B1.out b2)
  clear o2 b2 la d1 hf1
  dsimp only
  generalize l'.length = n' at *
  go_wp2_with fail
  obtain ⟨V, hV⟩ : ∃ V, wp.alloc (.cells #[.slice A' n' c', .int .i64 cur'] 153) = V := ⟨_, rfl⟩
  rw [hV]
  have b3 : Below w.heap.size w V := by rw [← hV]; exact bel_alloc B2.out _
  have o3 := O2.out.keep (bel_alloc (Below.refl wp.heap.size wp) (.cells #[.slice A' n' c', .int .i64 cur'] 153))
  rw [hV] at o3
  refine (KS.out V A' n' c' b3).mono ?_
  rintro e w4 ⟨rfl, m4, c4⟩
  have HFIN := Lib.hid (H.out.put H0.out HO.out.1 HO.out.2.1 HO.out.2.2.1 HO.out.2.2.2 b3 (o3.mono B1.out.size) m4 c4)
  clear o3 b3 m4 c4 hV
  go_wp2_with fail
  exact bodyPost_ret (v := .tuple #[.int .i64 i, .int .i64 p, .int .i64 0]) (by simp [results, Try.results92, go_sem]) rfl ⟨rfl, HFIN.out⟩
set_option maxRecDepth 100000 in
set_option maxHeartbeats 8000000 in
theorem region_Lay_dry (r s a : Int) (q : Nat) {c cur : Int} {l : List Int} (hl : -9223372036854775808 ≤ r) (hm : r ≤ 9223372036854775807) (hk : k < 100000) (h : TreesOver w0 w tb O N S k st) (hr : findV S r = ((q : Int), 0)) (hst : st (q : Int) = some (c, l, cur)) (hll : l.length ≤ 100000)
    (bc : -9223372036854775808 ≤ cur ∧ cur ≤ 9223372036854775807) (bs : -9223372036854775808 ≤ s ∧ s ≤ 9223372036854775807) (ba : -9223372036854775808 ≤ a ∧ a ≤ 9223372036854775807) (he : (PG.lay l cur s a 64).2.2.2.2 ≠ 0) :
    Calls Try.prog 92 #[.pointer (some ⟨tb, 0, none⟩), .int .i64 r, .int .i64 s, .int .i64 a, .int .i64 64] w fun e w' => e = .returned (.tuple #[.int .i64 0, .int .i64 0, .int .i64 (PG.lay l cur s a 64).2.2.2.2]) ∧ Below w.heap.size w w' := by
  obtain ⟨mb, Fb, own, f, h0, h1, h2, h3, h4⟩ := h.ex
  have K1 := region_find r hl hm h0
  rw [hr] at K1
  replace K1 := Lib.hid K1
  have hin := find_in hr
  have hqO : q ∈ S.O := in_ints.1 hin
  have hql : q < 4096 := h0.forest.fi.lt hqO
  obtain ⟨v, hv1, hv2, hv3⟩ := h0.tell hst
  obtain ⟨A, cc, rfl, hi, hcc, hcm⟩ := hv2.ints
  obtain ⟨n, hn⟩ : ∃ n, l.length = n := ⟨_, rfl⟩
  rw [hn] at hi hcc hv1 hv2 hv3 hll
  have bq : BdI (q : Int) := ⟨by omega, by omega⟩
  have KL : Hid (∀ W, Below w.heap.size w W → (Instr.lookup 118 (.map (some mb)) (.int .i64 (q : Int)) false).run Try.prog W = .ok (.agg #[.int .i64 c, .slice A n cc, .int .i64 cur]) W) := Lib.hid (fun W hW => by
    have := (h0.keep hW).map.look0 (q : Int) bq
    rw [hv1] at this
    exact this)
  have HF := Lib.hid hv1
  have H := Lib.hid h
  have H0 := Lib.hid h0
  have HO := Lib.hid (And.intro h1 (And.intro h2 (And.intro h3 h4)))
  have KP : Hid (∀ W, Below w.heap.size w W → Calls Try.prog 146 #[.agg #[.slice A n cc, .int .i64 cur], .int .i64 s, .int .i64 a, .int .i64 64] W (GivesLayO W (PG.lay l cur s a 64))) := Lib.hid (fun W hW => page_LayO cc cur s a 64 (hi.keep hW) hll bc bs ba (by omega))
  obtain ⟨⟨l', cur', i, p, er⟩, hE⟩ : ∃ E, PG.lay l cur s a 64 = E := ⟨_, rfl⟩
  rw [hE] at KP he ⊢
  dsimp only at he ⊢
  have g2 : (er != 0) = true := by simpa using he
  clear h h0 h1 h2 h3 h4 bq hin hqO hql hv1 hv2 hv3 hr hst hi hn hE hll hcc hcm
  go_enter Try.func92, Try.ntmps92
  go_wp2_with fail
  refine K1.out.mono ?_
  rintro e wa ⟨rfl, b1⟩
  have la := KL.out wa b1
  have d1 : wa.cell? ⟨tb, 1, none⟩ = some (.map (some mb)) := (((H0.out.keep b1).row).cell 1).trans rfl
  have hf1 := run_field1 c cur (.slice A n cc) wa
  have B1 := Lib.hid b1
  clear b1
  go_wp2_with fail
  refine (KP.out wa B1.out).mono ?_
  rintro e wp ⟨v', rfl, o2, b2⟩
  obtain ⟨A', c', rfl, _⟩ := o2.ints
  have O2 := Lib.hid o2
  have B2 := Lib.hid (bel_trans B1.out b2)
  clear o2 b2 la d1 hf1
  dsimp only
  go_wp2_with fail
  exact bodyPost_ret (v := .tuple #[.int .i64 0, .int .i64 0, .int .i64 er]) (by simp [results, Try.results92, go_sem]) rfl ⟨rfl, bel_alloc B2.out _⟩
set_option maxRecDepth 100000 in
set_option maxHeartbeats 8000000 in
theorem region_Add (r i : Int) (q : Nat) {c cur : Int} {l : List Int} (hl : -9223372036854775808 ≤ r) (hm : r ≤ 9223372036854775807) (hk : k < 100000) (h : TreesOver w0 w tb O N S k st) (hr : findV S r = ((q : Int), 0)) (hst : st (q : Int) = some (c, l, cur)) (hll : l.length ≤ 100000) (he : (PG.add l cur i).2 = 0) :
    Calls Try.prog 93 #[.pointer (some ⟨tb, 0, none⟩), .int .i64 r, .int .i64 i] w fun e w' => e = .returned (.int .i64 0) ∧ TreesStep w0 w tb O N S (k + 1) (stSet st (q : Int) c (PG.add l cur i).1 0) w' := by
  obtain ⟨mb, Fb, own, f, h0, h1, h2, h3, h4⟩ := h.ex
  have K1 := region_find r hl hm h0
  rw [hr] at K1
  replace K1 := Lib.hid K1
  have hin := find_in hr
  have hqO : q ∈ S.O := in_ints.1 hin
  have hql : q < 4096 := h0.forest.fi.lt hqO
  obtain ⟨v, hv1, hv2, hv3⟩ := h0.tell hst
  obtain ⟨A, cc, rfl, hi, hcc, hcm⟩ := hv2.ints
  obtain ⟨n, hn⟩ : ∃ n, l.length = n := ⟨_, rfl⟩
  rw [hn] at hi hcc hv1 hv2 hv3 hll
  have bq : BdI (q : Int) := ⟨by omega, by omega⟩
  have KL : Hid (∀ W, Below w.heap.size w W → (Instr.lookup 118 (.map (some mb)) (.int .i64 (q : Int)) false).run Try.prog W = .ok (.agg #[.int .i64 c, .slice A n cc, .int .i64 cur]) W) := Lib.hid (fun W hW => by
    have := (h0.keep hW).map.look0 (q : Int) bq
    rw [hv1] at this
    exact this)
  have HF := Lib.hid hv1
  have H := Lib.hid h
  have H0 := Lib.hid h0
  have HO := Lib.hid (And.intro h1 (And.intro h2 (And.intro h3 h4)))
  have KP : Hid (∀ W, Below w.heap.size w W → Calls Try.prog 148 #[.agg #[.slice A n cc, .int .i64 cur], .int .i64 i] W (GivesAddO W (PG.add l cur i))) := Lib.hid (fun W hW => page_AddO cc cur i (hi.keep hW) hll)
  obtain ⟨⟨l', er⟩, hE⟩ : ∃ E, PG.add l cur i = E := ⟨_, rfl⟩
  rw [hE] at KP he ⊢
  dsimp only at he ⊢
  subst he
  have KS : Hid (∀ W A' n' c', Below w.heap.size w W → Calls Try.prog 147 #[.pointer (some ⟨tb, 0, none⟩), .int .i64 (q : Int), .agg #[.slice A' n' c', .int .i64 0]] W _) := Lib.hid (fun W A' n' c' hW => region_set (A' := A') (n' := n') (c2 := c') (q : Int) c cur 0 bq hk (h0.keep hW).row (h0.keep hW).map h0.far.1 hv1)
  clear h h0 h1 h2 h3 h4 bq hin hqO hql hv1 hv2 hv3 hr hst hi hn hE hll hcc hcm
  go_enter Try.func93, Try.ntmps93
  go_wp2_with fail
  refine K1.out.mono ?_
  rintro e wa ⟨rfl, b1⟩
  have la := KL.out wa b1
  have d1 : wa.cell? ⟨tb, 1, none⟩ = some (.map (some mb)) := (((H0.out.keep b1).row).cell 1).trans rfl
  have hf1 := run_field1 c cur (.slice A n cc) wa
  have B1 := Lib.hid b1
  clear b1
  go_wp2_with fail
  refine (KP.out wa B1.out).mono ?_
  rintro e wp ⟨v', rfl, o2, b2⟩
  obtain ⟨A', c', rfl, _⟩ := o2.ints
  have O2 := Lib.hid o2
  have B2 := Lib.hid (bel_trans B1.out b2)
  clear o2 b2 la d1 hf1
  dsimp only
  generalize l'.length = n' at *
  go_wp2_with fail
  obtain ⟨V, hV⟩ : ∃ V, wp.alloc (.cells #[.slice A' n' c', .int .i64 0] 153) = V := ⟨_, rfl⟩
  rw [hV]
  have b3 : Below w.heap.size w V := by rw [← hV]; exact bel_alloc B2.out _
  have o3 := O2.out.keep (bel_alloc (Below.refl wp.heap.size wp) (.cells #[.slice A' n' c', .int .i64 0] 153))
  rw [hV] at o3
  refine (KS.out V A' n' c' b3).mono ?_
  rintro e w4 ⟨rfl, m4, c4⟩
  have HFIN := Lib.hid (H.out.put H0.out HO.out.1 HO.out.2.1 HO.out.2.2.1 HO.out.2.2.2 b3 (o3.mono B1.out.size) m4 c4)
  clear o3 b3 m4 c4 hV
  go_wp2_with fail
  exact bodyPost_ret (v := .int .i64 0) (by simp [results, Try.results93, go_sem]) rfl ⟨rfl, HFIN.out⟩
set_option maxRecDepth 100000 in
set_option maxHeartbeats 8000000 in
theorem region_Add_twice (r i : Int) (q : Nat) {c cur : Int} {l : List Int} (hl : -9223372036854775808 ≤ r) (hm : r ≤ 9223372036854775807) (hk : k < 100000) (h : TreesOver w0 w tb O N S k st) (hr : findV S r = ((q : Int), 0)) (hst : st (q : Int) = some (c, l, cur)) (hll : l.length ≤ 100000) (he : (PG.add l cur i).2 ≠ 0) :
    Calls Try.prog 93 #[.pointer (some ⟨tb, 0, none⟩), .int .i64 r, .int .i64 i] w fun e w' => e = .returned (.int .i64 (PG.add l cur i).2) ∧ Below w.heap.size w w' := by
  obtain ⟨mb, Fb, own, f, h0, h1, h2, h3, h4⟩ := h.ex
  have K1 := region_find r hl hm h0
  rw [hr] at K1
  replace K1 := Lib.hid K1
  have hin := find_in hr
  have hqO : q ∈ S.O := in_ints.1 hin
  have hql : q < 4096 := h0.forest.fi.lt hqO
  obtain ⟨v, hv1, hv2, hv3⟩ := h0.tell hst
  obtain ⟨A, cc, rfl, hi, hcc, hcm⟩ := hv2.ints
  obtain ⟨n, hn⟩ : ∃ n, l.length = n := ⟨_, rfl⟩
  rw [hn] at hi hcc hv1 hv2 hv3 hll
  have bq : BdI (q : Int) := ⟨by omega, by omega⟩
  have KL : Hid (∀ W, Below w.heap.size w W → (Instr.lookup 118 (.map (some mb)) (.int .i64 (q : Int)) false).run Try.prog W = .ok (.agg #[.int .i64 c, .slice A n cc, .int .i64 cur]) W) := Lib.hid (fun W hW => by
    have := (h0.keep hW).map.look0 (q : Int) bq
    rw [hv1] at this
    exact this)
  have HF := Lib.hid hv1
  have H := Lib.hid h
  have H0 := Lib.hid h0
  have HO := Lib.hid (And.intro h1 (And.intro h2 (And.intro h3 h4)))
  have KP : Hid (∀ W, Below w.heap.size w W → Calls Try.prog 148 #[.agg #[.slice A n cc, .int .i64 cur], .int .i64 i] W (GivesAddO W (PG.add l cur i))) := Lib.hid (fun W hW => page_AddO cc cur i (hi.keep hW) hll)
  obtain ⟨⟨l', er⟩, hE⟩ : ∃ E, PG.add l cur i = E := ⟨_, rfl⟩
  rw [hE] at KP he ⊢
  dsimp only at he ⊢
  have g2 : (er == 0) = false := by simpa using he
  clear h h0 h1 h2 h3 h4 bq hin hqO hql hv1 hv2 hv3 hr hst hi hn hE hll hcc hcm
  go_enter Try.func93, Try.ntmps93
  go_wp2_with fail
  refine K1.out.mono ?_
  rintro e wa ⟨rfl, b1⟩
  have la := KL.out wa b1
  have d1 : wa.cell? ⟨tb, 1, none⟩ = some (.map (some mb)) := (((H0.out.keep b1).row).cell 1).trans rfl
  have hf1 := run_field1 c cur (.slice A n cc) wa
  have B1 := Lib.hid b1
  clear b1
  go_wp2_with fail
  refine (KP.out wa B1.out).mono ?_
  rintro e wp ⟨v', rfl, o2, b2⟩
  obtain ⟨A', c', rfl, _⟩ := o2.ints
  have O2 := Lib.hid o2
  have B2 := Lib.hid (bel_trans B1.out b2)
  clear o2 b2 la d1 hf1
  dsimp only
  go_wp2_with fail
  exact bodyPost_ret (v := .int .i64 er) (by simp [results, Try.results93, go_sem]) rfl ⟨rfl, bel_alloc B2.out _⟩
end Go.Proofs.Ytdhcmnbajkpjiaa
/-
  Layer 39 (page): Join of any pages.
-/
namespace Go.Proofs.Ytdhcmnbajkpjiaa
open Go.RowKit
set_option linter.unusedVariables false
set_option linter.unusedSimpArgs false
attribute [local go_sem] drewN_alloc drewN_setCell

/-- Pages in memory, one behind the other: each one's slice, its chunks, its cursor. -/
def PagesAt (w : World) (a : Option Addr) (m : Nat) (L : List (Value × List Int × Int)) : Prop :=
  L.length = m ∧ (∀ x ∈ L, ∃ A n c, x.1 = .slice A n c ∧ IntsAt w A n x.2.1) ∧
    (0 < m → ∃ g off, a = some ⟨g, off, none⟩ ∧ g < w.heap.size ∧ ∀ j, j < m → ∃ x, L[j]? = some x ∧ w.cell? ⟨g, off + j * 2, none⟩ = some x.1 ∧ w.cell? ⟨g, off + j * 2 + 1, none⟩ = some (.int .i64 x.2.2))
def joinP (L : List (Value × List Int × Int)) : List Int := L.flatMap (fun x => x.2.1)
theorem joinP_take {L : List (Value × List Int × Int)} {k : Nat} {x : Value × List Int × Int} (h : L[k]? = some x) : joinP (L.take (k + 1)) = joinP (L.take k) ++ x.2.1 := by
  unfold joinP
  rw [List.take_add_one, h]
  simp
theorem joinP_le (L : List (Value × List Int × Int)) (k : Nat) : (joinP (L.take k)).length ≤ (joinP L).length := by
  unfold joinP
  conv => rhs; rw [← List.take_append_drop k L, List.flatMap_append, List.length_append]
  omega
def JoinRel (w : World) (m : Nat) (L : List (Value × List Int × Int)) (out i : Value) (wr : World) : Prop :=
  ∃ k : Nat, i = .int .i64 (k : Int) ∧ k ≤ m ∧ OwnI w.heap.size wr out (joinP (L.take k)) ∧ Below w.heap.size w wr
set_option maxRecDepth 100000 in
set_option maxHeartbeats 8000000 in
theorem page_JoinO {a : Option Addr} {m c : Nat} {L : List (Value × List Int × Int)} {w : World} (h : PagesAt w a m L) (hn : (joinP L).length ≤ 100000) (hm : m ≤ 100000) :
    Calls Try.prog 149 #[.slice a m c] w (GivesOwnI w (joinP L)) := by
  have H := Lib.hid h
  have HN := Lib.hid hn
  clear h
  go_enter Try.func149, Try.ntmps149
  go_wp2_with fail
  go_loopw [3, 8] (fun out i wr => JoinRel w m L out i wr) (fun _ i _ => m - (intOf i).toNat)
  case atStart => exact ⟨0, rfl, Nat.zero_le _, by simpa [joinP] using OwnI.nil _ _, Below.refl _ _⟩
  case round =>
    obtain ⟨k, rfl, hk, ho, hb⟩ := hrel
    by_cases hlt : (k : Int) < m
    · have hkm : k < m := by omega
      obtain ⟨g, off, rfl, hg, hx⟩ := H.out.2.2 (by omega)
      obtain ⟨x, ex, x0, x1⟩ := hx k hkm
      obtain ⟨A, n, c', e, hi⟩ := H.out.2.1 x (List.mem_of_getElem? ex)
      have ej := joinP_take ex
      have el := joinP_le L (k + 1)
      rw [ej, List.length_append] at el
      obtain ⟨v, xs, cur⟩ := x
      dsimp only at x0 x1 e hi ej el
      subst e
      have y0 := (hb.cell (p := ⟨g, off + k * 2, none⟩) hg).trans x0
      have y1 := (hb.cell (p := ⟨g, off + k * 2 + 1, none⟩) hg).trans x1
      have HS : Hid (∀ W, Below wr.heap.size wr W → SrcS 1 W A n (cellsI xs)) := Lib.hid (fun W hW => ((hi.keep hb).keep hW).srcI)
      have HE := Lib.hid ej
      have hxl : xs.length = n := hi.1
      have HB := Lib.hid hb
      have i0 : (0 : Int) ≤ (k : Int) := by omega
      replace ho := Lib.hid ho
      have HL : Hid ((joinP (L.take k)).length + n ≤ 100000) := Lib.hid (by have := HN.out; omega)
      have sb := hb.size
      clear hx x0 x1 ex hi ej el hb
      go_wp2_with (at_builtin; refine app_listI rfl (.tmp 12) (.tmp 14) rfl w.heap.size _ (joinP (L.take k)) rfl (ho.out.keep (by exact (by repeat (first | exact Below.refl _ _ | assumption | refine bel_drew ?_ | refine bel_drewN ?_ _ | refine bel_alloc ?_ _ | refine bel_set ?_ (by first | (dsimp only; omega) | (simp; done) | (simp; omega)) _ | refine bel_trans ?_ (by assumption))))) A n c' xs rfl (HS.out _ (by exact (by repeat (first | exact Below.refl _ _ | assumption | refine bel_drew ?_ | refine bel_drewN ?_ _ | refine bel_alloc ?_ _ | refine bel_set ?_ (by first | (dsimp only; omega) | (simp; done) | (simp; omega)) _ | refine bel_trans ?_ (by assumption))))) (by have := HL.out; omega) (by first | omega | (simp; done) | (simp; omega)) ?_; intro v1 w1 ho1 hb1; replace ho1 := Lib.hid ho1; replace hb1 := Lib.hid (HB.out.trans (((bel_alloc (Below.refl wr.heap.size wr) _).mono sb).trans hb1)))
      go_roundw
      case rel => exact ⟨k + 1, by go_num, by omega, by rw [HE.out]; exact ho1.out, hb1.out⟩
      case measure => simp [intOf]; omega
    · have hkm : k = m := by omega
      subst hkm
      have e0 : L.take k = L := List.take_of_length_le (by have := H.out.1; omega)
      rw [e0] at ho
      replace ho := Lib.hid ho
      replace hb := Lib.hid hb
      go_wp2_with fail
      go_ret
      exact ⟨_, rfl, ho.out, hb.out⟩
end Go.Proofs.Ytdhcmnbajkpjiaa
/-
  Layer 40 (region): slices of pages of the call's own; Chunks, Under.
-/
namespace Go.Proofs.Ytdhcmnbajkpjiaa
open Go.RowKit
set_option linter.unusedVariables false
set_option linter.unusedSimpArgs false
attribute [local go_sem] drewN_alloc drewN_setCell

abbrev PgRow := List (Value × List Int × Int)
def cellsP (L : PgRow) : List Value := L.flatMap (fun x => [x.1, .int .i64 x.2.2])
theorem cellsP_len : ∀ L : PgRow, (cellsP L).length = L.length * 2
  | [] => rfl
  | a :: L => by
    show (a.1 :: .int .i64 a.2.2 :: cellsP L).length = _
    rw [List.length_cons, List.length_cons, cellsP_len L, List.length_cons]
    omega
theorem cellsP_append (L M : PgRow) : cellsP (L ++ M) = cellsP L ++ cellsP M := by unfold cellsP; rw [List.flatMap_append]
theorem cellsP_at : ∀ (L : PgRow) (j : Nat) (x : Value × List Int × Int), L[j]? = some x → (cellsP L)[j * 2]? = some x.1 ∧ (cellsP L)[j * 2 + 1]? = some (.int .i64 x.2.2)
  | [], j, x, h => by simp at h
  | a :: L, 0, x, h => by
    simp only [List.getElem?_cons_zero, Option.some.injEq] at h
    subst h
    exact ⟨rfl, rfl⟩
  | a :: L, j + 1, x, h => by
    rw [List.getElem?_cons_succ] at h
    have := cellsP_at L j x h
    have e1 : (j + 1) * 2 = (j * 2 + 1) + 1 := by omega
    have e2 : (j + 1) * 2 + 1 = (j * 2 + 1 + 1) + 1 := by omega
    have ec : cellsP (a :: L) = a.1 :: .int .i64 a.2.2 :: cellsP L := rfl
    rw [e1, ec]
    exact ⟨by rw [List.getElem?_cons_succ, List.getElem?_cons_succ]; exact this.1, by rw [List.getElem?_cons_succ, List.getElem?_cons_succ]; exact this.2⟩
/-- Each page's chunks are read in w. -/
def InP (w : World) (L : PgRow) : Prop := ∀ x ∈ L, ∃ A n c, x.1 = .slice A n c ∧ IntsAt w A n x.2.1
theorem InP.keep {w w' : World} {L : PgRow} (h : InP w L) (hb : Below w.heap.size w w') : InP w' L := fun x hx => by
  obtain ⟨A, n, c, e, i⟩ := h x hx
  exact ⟨A, n, c, e, i.keep hb⟩
theorem cellsP_one {w : World} {L : PgRow} (h : InP w L) : ∀ u ∈ cellsP L, u.oneCell' = true := by
  intro u hu
  unfold cellsP at hu
  obtain ⟨x, hx, hu⟩ := List.mem_flatMap.1 hu
  obtain ⟨A, n, c, e, _⟩ := h x hx
  simp only [List.mem_cons, List.not_mem_nil, or_false] at hu
  rcases hu with rfl | rfl
  · rw [e]; rfl
  · rfl
def OwnP (B : Nat) (w : World) (v : Value) (L : PgRow) : Prop := w.ownsRow B 153 2 v L.length (cellsP L)
theorem OwnP.nil (B : Nat) (w : World) : OwnP B w (.slice none 0 0) [] := World.ownsRow_nil w B _ 2
theorem OwnP.ltB {B : Nat} {w : World} {v : Value} {L : PgRow} (h : OwnP B w v L) (k : Nat) (e : v.ownBlock = some k) : B ≤ k ∧ k < w.heap.size := World.ownsRow.lt h k e
theorem OwnP.of_block {B : Nat} {w w' : World} {v : Value} {L : PgRow} (h : OwnP B w v L) (e : ∀ k, v.ownBlock = some k → w'.heap[k]? = w.heap[k]?) : OwnP B w' v L := by
  refine ⟨h.1, ?_⟩
  rcases h.2 with h1 | ⟨g, cap, cur, rfl, hb, hg, h3⟩
  · exact .inl h1
  · exact .inr ⟨g, cap, cur, rfl, hb, by rw [e g rfl]; exact hg, h3⟩
theorem OwnP.keep {B : Nat} {w w' : World} {v : Value} {L : PgRow} (h : OwnP B w v L) (hb : Below w.heap.size w w') : OwnP B w' v L :=
  h.of_block (fun k e => hb.block k (h.ltB k e).2)
theorem OwnP.pages {B : Nat} {w : World} {v : Value} {L : PgRow} (h : OwnP B w v L) (hi : InP w L) : ∃ A c, v = .slice A L.length c ∧ PagesAt w A L.length L := by
  rcases h.2 with ⟨rfl, e⟩ | ⟨g, cap, cur, rfl, hb, hg, hn, hcm, hcs, hx⟩
  · obtain rfl := List.eq_nil_of_length_eq_zero e
    exact ⟨none, 0, rfl, rfl, hi, fun h0 => absurd h0 (by simp)⟩
  · refine ⟨_, _, rfl, rfl, hi, fun h0 => ⟨g, 0, rfl, (Array.getElem?_eq_some_iff.1 hg).1, fun j hj => ?_⟩⟩
    obtain ⟨x, ex⟩ : ∃ x, L[j]? = some x := ⟨_, List.getElem?_eq_getElem hj⟩
    have hc := cellsP_at L j x ex
    refine ⟨x, ex, ?_, ?_⟩
    · rw [Nat.zero_add, World.ownsRow.cellAt (w := w) (base := B) (e := 153) (size := 2) h (j * 2) (by omega), hc.1]
    · rw [Nat.zero_add, World.ownsRow.cellAt (w := w) (base := B) (e := 153) (size := 2) h (j * 2 + 1) (by omega), hc.2]
theorem infoPg : ∃ (i : TypeInfo) (z : Value), Try.prog.info? 153 = some i ∧ i.zero = some z ∧ i.size = 2 ∧ i.bytes = 32 ∧ z.cells.size = 2 := by
  have h : (Try.prog.info? 153).map (fun i => (i.zero.map (fun z => z.cells.size), i.size, i.bytes)) = some (some 2, 2, 32) := by kernel_rfl
  rcases hi : Try.prog.info? 153 with _ | i
  · rw [hi] at h; cases h
  · rw [hi] at h
    simp only [Option.map_some, Option.some.injEq, Prod.mk.injEq] at h
    obtain ⟨h1, h2, h3⟩ := h
    rcases hz : i.zero with _ | z
    · rw [hz] at h1; cases h1
    · rw [hz] at h1
      simp only [Option.map_some, Option.some.injEq] at h1
      exact ⟨i, z, rfl, hz, h2, h3, h1⟩
theorem app_listP {ops : Array Oper} {rest : List Oper} {o : Oper} {a : Act} {Q : Exit → Act → World → Prop} {w : World} (hgd : o.guard = none) (s x : Operand)
    (ho : o.op = .call { callee := .builtin .append, args := #[s, x], argTypes := #[162, 162] })
    (B : Nat) (v : Value) (l : PgRow) (hsv : a.eval s = v) (hown : OwnP B w v l)
    (A : Option Addr) (m c : Nat) (l2 : PgRow) (hx : a.eval x = .slice A m c) (hs : SrcS 2 w A m (cellsP l2)) (h2 : InP w l2) (hlen : l.length + m ≤ 1048576) (hbase : B ≤ w.heap.size)
    (h : ∀ v' w', OwnP B w' v' (l ++ l2) → Below B w w' → wpList Try.prog ops Q rest (a.put o.dst v') w') : wpList Try.prog ops Q (o :: rest) a w := by
  obtain ⟨i, z, hi, hz, hsz, hby, hzs⟩ := infoPg
  refine wpList_append_S w hgd 2 (by decide) s x 162 ho B 153 i z 32 Try.underlying162 hi hz hsz hby hzs v l.length _ hsv hown A m c _ hx hs (cellsP_one h2) (by unfold maxLen; omega) (by omega) hbase (fun v' w' h2 h3 h4 => ?_)
  refine h v' w' ?_ ((Below.refl B w).grown h3 hbase (fun g hg => (hown.lt g hg).1))
  have hm : m = l2.length := by have := hs.1; rw [cellsP_len] at this; omega
  unfold OwnP
  rw [cellsP_append, List.length_append, ← hm]
  exact h2
theorem srcP_one (w : World) (A : Option Addr) (n c : Nat) (xs : List Int) (cur : Int) : SrcS 2 (w.alloc (.cells #[.slice A n c, .int .i64 cur] 153)) (some ⟨w.heap.size, 0, none⟩) 1 (cellsP [(.slice A n c, xs, cur)]) := by
  refine ⟨rfl, fun e => by simp at e, fun ad e j u hu => ?_⟩
  obtain rfl : (⟨w.heap.size, 0, none⟩ : Addr) = ad := by simpa using e
  rw [addr_addS, Nat.zero_add]
  have r : RowR (w.alloc (.cells #[.slice A n c, .int .i64 cur] 153)) w.heap.size 153 [.slice A n c, .int .i64 cur] := RowR.new w _ _
  rw [r.cell]
  exact hu
/-- A region's chunks. -/
def chunksOf (st : Int → Option (Int × List Int × Int)) (x : Int) : List Int := match st x with | some (_, l, _) => l | none => []
theorem chunksOf_some {st : Int → Option (Int × List Int × Int)} {x c cur : Int} {l : List Int} (h : st x = some (c, l, cur)) : chunksOf st x = l := by unfold chunksOf; rw [h]
variable {w0 w w' : World} {tb : Nat} {O : Nat → Prop} {N : List Nat} {S : FSt} {k : Nat} {st : Int → Option (Int × List Int × Int)}
theorem page_one (w : World) (A : Option Addr) (n c : Nat) (xs : List Int) (cur : Int) (hi : IntsAt w A n xs) (hx : xs.length ≤ 100000) :
    Calls Try.prog 149 #[.slice (some ⟨w.heap.size, 0, none⟩) 1 1] (w.alloc (.cells #[.slice A n c, .int .i64 cur] 153)) (GivesOwnI (w.alloc (.cells #[.slice A n c, .int .i64 cur] 153)) xs) := by
  have r : RowR (w.alloc (.cells #[.slice A n c, .int .i64 cur] 153)) w.heap.size 153 [.slice A n c, .int .i64 cur] := RowR.new w _ _
  have hp : PagesAt (w.alloc (.cells #[.slice A n c, .int .i64 cur] 153)) (some ⟨w.heap.size, 0, none⟩) 1 [(.slice A n c, xs, cur)] := by
    refine ⟨rfl, fun x hx => ?_, fun _ => ⟨w.heap.size, 0, rfl, by simp, fun j hj => ?_⟩⟩
    · obtain rfl := List.mem_singleton.1 hx
      exact ⟨A, n, c, rfl, hi.keep (bel_alloc (Below.refl _ _) _)⟩
    · obtain rfl : j = 0 := by omega
      exact ⟨_, rfl, (r.cell 0).trans rfl, (r.cell 1).trans rfl⟩
  have := page_JoinO (c := 1) hp (by simpa [joinP] using hx) (by omega)
  simpa [joinP] using this
def GivesChunks (w : World) (l : List Int) (e : Ending) (w' : World) : Prop := ∃ v, e = .returned (.tuple #[v, .int .i64 0]) ∧ OwnI w.heap.size w' v l ∧ Below w.heap.size w w'
set_option maxRecDepth 100000 in
set_option maxHeartbeats 4000000 in
theorem region_Chunks_no (r e0 : Int) (hl : -9223372036854775808 ≤ r) (hm : r ≤ 9223372036854775807) (he : e0 ≠ 0) (h : TreesOver w0 w tb O N S k st) (hr : findV S r = (0, e0)) :
    Calls Try.prog 94 #[.pointer (some ⟨tb, 0, none⟩), .int .i64 r] w fun e w' => e = .returned (.tuple #[.slice none 0 0, .int .i64 e0]) ∧ Below w.heap.size w w' := by
  obtain ⟨mb, Fb, own, f, h0, h1, h2, h3, h4⟩ := h.ex
  have K1 := region_find r hl hm h0
  rw [hr] at K1
  replace K1 := Lib.hid K1
  have g1 : (e0 != 0) = true := by simpa using he
  clear h h0 h1 h2 h3 h4 hr
  go_enter Try.func94, Try.ntmps94
  go_wp2_with fail
  refine K1.out.mono ?_
  rintro e w1 ⟨rfl, b1⟩
  go_wp2_with fail
  exact bodyPost_ret (v := .tuple #[.slice none 0 0, .int .i64 e0]) (by simp [results, Try.results94, go_sem]) rfl ⟨rfl, b1⟩
set_option maxRecDepth 100000 in
set_option maxHeartbeats 4000000 in
theorem region_Under_no (r e0 : Int) (hl : -9223372036854775808 ≤ r) (hm : r ≤ 9223372036854775807) (he : e0 ≠ 0) (h : TreesOver w0 w tb O N S k st) (hr : findV S r = (0, e0)) :
    Calls Try.prog 96 #[.pointer (some ⟨tb, 0, none⟩), .int .i64 r] w fun e w' => e = .returned (.tuple #[.slice none 0 0, .int .i64 e0]) ∧ Below w.heap.size w w' := by
  obtain ⟨mb, Fb, own, f, h0, h1, h2, h3, h4⟩ := h.ex
  have K1 := region_find r hl hm h0
  rw [hr] at K1
  replace K1 := Lib.hid K1
  have g1 : (e0 != 0) = true := by simpa using he
  clear h h0 h1 h2 h3 h4 hr
  go_enter Try.func96, Try.ntmps96
  go_wp2_with fail
  refine K1.out.mono ?_
  rintro e w1 ⟨rfl, b1⟩
  go_wp2_with fail
  exact bodyPost_ret (v := .tuple #[.slice none 0 0, .int .i64 e0]) (by simp [results, Try.results96, go_sem]) rfl ⟨rfl, b1⟩
set_option maxRecDepth 100000 in
set_option maxHeartbeats 8000000 in
theorem region_Chunks (r : Int) (q : Nat) {c cur : Int} {l : List Int} (hl : -9223372036854775808 ≤ r) (hm : r ≤ 9223372036854775807) (h : TreesOver w0 w tb O N S k st) (hr : findV S r = ((q : Int), 0)) (hst : st (q : Int) = some (c, l, cur)) (hll : l.length ≤ 100000) :
    Calls Try.prog 94 #[.pointer (some ⟨tb, 0, none⟩), .int .i64 r] w (GivesChunks w l) := by
  obtain ⟨mb, Fb, own, f, h0, h1, h2, h3, h4⟩ := h.ex
  have K1 := region_find r hl hm h0
  rw [hr] at K1
  replace K1 := Lib.hid K1
  have hin := find_in hr
  have hqO : q ∈ S.O := in_ints.1 hin
  have hql : q < 4096 := h0.forest.fi.lt hqO
  obtain ⟨v, hv1, hv2, hv3⟩ := h0.tell hst
  obtain ⟨A, cc, rfl, hi, hcc, hcm⟩ := hv2.ints
  obtain ⟨n, hn⟩ : ∃ n, l.length = n := ⟨_, rfl⟩
  have hll' := hll
  rw [hn] at hi hcc hv1 hv2 hv3 hll
  have bq : BdI (q : Int) := ⟨by omega, by omega⟩
  have KL : Hid (∀ W, Below w.heap.size w W → (Instr.lookup 118 (.map (some mb)) (.int .i64 (q : Int)) false).run Try.prog W = .ok (.agg #[.int .i64 c, .slice A n cc, .int .i64 cur]) W) := Lib.hid (fun W hW => by
    have := (h0.keep hW).map.look0 (q : Int) bq
    rw [hv1] at this
    exact this)
  have HF := Lib.hid hv1
  have H := Lib.hid h
  have H0 := Lib.hid h0
  have HO := Lib.hid (And.intro h1 (And.intro h2 (And.intro h3 h4)))
  have KP : Hid (∀ W, Below w.heap.size w W → Calls Try.prog 149 #[.slice (some ⟨W.heap.size, 0, none⟩) 1 1] (W.alloc (.cells #[.slice A n cc, .int .i64 cur] 153)) (GivesOwnI (W.alloc (.cells #[.slice A n cc, .int .i64 cur] 153)) l)) := Lib.hid (fun W hW => page_one W A n cc l cur (hi.keep hW) hll')
  clear h h0 h1 h2 h3 h4 bq hin hqO hql hv1 hv2 hv3 hr hst hi hn hll hcc hcm hll'
  go_enter Try.func94, Try.ntmps94
  go_wp2_with fail
  refine K1.out.mono ?_
  rintro e wa ⟨rfl, b1⟩
  have la := KL.out wa b1
  have d1 : wa.cell? ⟨tb, 1, none⟩ = some (.map (some mb)) := (((H0.out.keep b1).row).cell 1).trans rfl
  have hf1 := run_field1 c cur (.slice A n cc) wa
  have B1 := Lib.hid b1
  clear b1
  go_wp2_with fail
  refine (KP.out wa B1.out).mono ?_
  rintro e wp ⟨v', rfl, o2, b2⟩
  have O2 := Lib.hid (o2.mono (B' := w.heap.size) (Nat.le_trans B1.out.size (by simp)))
  have B2 := Lib.hid (bel_trans (bel_alloc B1.out _) b2)
  clear o2 b2 la d1 hf1
  go_wp2_with fail
  exact bodyPost_ret (v := .tuple #[v', .int .i64 0]) (by simp [results, Try.results94, go_sem]) rfl ⟨v', rfl, O2.out, B2.out⟩
end Go.Proofs.Ytdhcmnbajkpjiaa
/-
  Layer 40 (region): Under.
-/
namespace Go.Proofs.Ytdhcmnbajkpjiaa
open Go.RowKit
set_option linter.unusedVariables false
set_option linter.unusedSimpArgs false
attribute [local go_sem] drewN_alloc drewN_setCell

variable {w0 w w' : World} {tb : Nat} {O : Nat → Prop} {N : List Nat} {S : FSt} {k : Nat} {st : Int → Option (Int × List Int × Int)}
def UnderRel (B : Nat) (w w2 : World) (st : Int → Option (Int × List Int × Int)) (P : List Nat) (l i : Value) (wr : World) : Prop :=
  ∃ (j : Nat) (L : PgRow), i = .int .i64 (j : Int) ∧ j ≤ P.length ∧ L.length = j ∧ OwnP B wr l L ∧ InP w L ∧ joinP L = (P.take j).flatMap (fun x : Nat => chunksOf st (x : Int)) ∧ Below B w2 wr
theorem flat_take {P : List Nat} {j x : Nat} (f : Nat → List Int) (h : P[j]? = some x) : (P.take (j + 1)).flatMap f = (P.take j).flatMap f ++ f x := by
  rw [List.take_add_one, h]; simp
theorem flat_take_le (P : List Nat) (j : Nat) (f : Nat → List Int) : ((P.take j).flatMap f).length ≤ (P.flatMap f).length := by
  conv => rhs; rw [← List.take_append_drop j P, List.flatMap_append, List.length_append]
  omega
/-- The chunks of a region's subtree. -/
def underV (N : List Nat) (S : FSt) (st : Int → Option (Int × List Int × Int)) (q : Nat) : List Int := (preW N S.up (q : Int)).flatMap (fun x : Nat => chunksOf st (x : Int))
set_option maxRecDepth 100000 in
set_option maxHeartbeats 16000000 in
theorem region_Under (r : Int) (q : Nat) (hl : -9223372036854775808 ≤ r) (hm : r ≤ 9223372036854775807) (h : TreesOver w0 w tb O N S k st) (hr : findV S r = ((q : Int), 0)) (hall : ∀ x ∈ N, ∃ c l cur, st (x : Int) = some (c, l, cur)) (hlen : (underV N S st q).length ≤ 100000) :
    Calls Try.prog 96 #[.pointer (some ⟨tb, 0, none⟩), .int .i64 r] w (GivesChunks w (underV N S st q)) := by
  obtain ⟨mb, Fb, own, f, h0, h1, h2, h3, h4⟩ := h.ex
  have K1 := region_find r hl hm h0
  rw [hr] at K1
  replace K1 := Lib.hid K1
  have hin := find_in hr
  have hqO : q ∈ S.O := in_ints.1 hin
  have hqN : q ∈ N := (h.rel.mem q).2 hqO
  have hpre : ∀ x ∈ preW N S.up (q : Int), x ∈ N := fun x hx => by
    rw [preW_yes ⟨by omega, by simpa using hqN⟩] at hx
    exact PW.pre_in h.ord.is _ (by simpa using hqN) x hx
  have hN : N.length ≤ 4096 := by
    have h5 : N.Nodup := h.rel.nd
    exact nodup_lt 4096 N h5 (fun x hx => h0.forest.fi.lt ((h.rel.mem x).1 hx))
  have hPl : (preW N S.up (q : Int)).length ≤ 4096 := Nat.le_trans (preW_len h.ord _) hN
  have KP : Hid (∀ W, Below w.heap.size w W → Calls Try.prog 72 #[.pointer (some ⟨Fb, 0, none⟩), .int .i64 (q : Int)] W (GivesOwnI W (ints (preW N S.up (q : Int))))) := Lib.hid (fun W hW => walk_PreO (q : Int) h.ord h.rel (h0.keep hW).forest)
  unfold underV at hlen ⊢
  obtain ⟨P, hP⟩ : ∃ P, preW N S.up (q : Int) = P := ⟨_, rfl⟩
  rw [hP] at hpre hPl KP hlen ⊢
  have KV : Hid (∀ x ∈ P, ∃ A n c l cc cur, f (x : Int) = some (regV cc (.slice A n c) cur) ∧ chunksOf st (x : Int) = l ∧ IntsAt w A n l) := Lib.hid (fun x hx => by
    obtain ⟨c, l, cur, e⟩ := hall x (hpre x hx)
    obtain ⟨v, v1, v2, _⟩ := h0.tell e
    obtain ⟨A, cc, rfl, hi, _⟩ := v2.ints
    exact ⟨A, _, cc, l, c, cur, v1, chunksOf_some e, hi⟩)
  have KL : Hid (∀ (x : Nat) W c A n cc cur, x ∈ P → Below w.heap.size w W → f (x : Int) = some (regV c (.slice A n cc) cur) → (Instr.lookup 118 (.map (some mb)) (.int .i64 (x : Int)) false).run Try.prog W = .ok (.agg #[.int .i64 c, .slice A n cc, .int .i64 cur]) W) := Lib.hid (fun x W c A n cc cur hx hW e => by
    have hxl : x < 4096 := h0.forest.fi.lt ((h.rel.mem x).1 (hpre x hx))
    have := (h0.keep hW).map.look0 (x : Int) ⟨by omega, by omega⟩
    rw [e] at this
    exact this)
  have H0 := Lib.hid h0
  have HL := Lib.hid hlen
  have HPL := Lib.hid hPl
  clear h h0 h1 h2 h3 h4 hin hqO hqN hpre hN hr hall hP hlen hPl
  go_enter Try.func96, Try.ntmps96
  go_wp2_with fail
  refine K1.out.mono ?_
  rintro e wa ⟨rfl, b1⟩
  have d0 : wa.cell? ⟨tb, 0, none⟩ = some (.pointer (some ⟨Fb, 0, none⟩)) := (((H0.out.keep b1).row).cell 0).trans rfl
  have B1 := Lib.hid b1
  clear b1
  go_wp2_with fail
  refine (KP.out wa B1.out).mono ?_
  rintro e w2 ⟨v2, rfl, o2, b2⟩
  obtain ⟨PA, pc, rfl, pi, _⟩ := o2.ints
  rw [ints_len] at pi ⊢
  have B2 := Lib.hid (bel_trans B1.out b2)
  have PI := Lib.hid pi
  clear o2 b2 d0 pi KP K1
  obtain ⟨m, hm⟩ : ∃ m, P.length = m := ⟨_, rfl⟩
  rw [hm]
  have HM := Lib.hid hm
  clear hm
  go_wp2_with fail
  go_loopw [8, 27] (fun l i wr => UnderRel w2.heap.size w w2 st P l i wr) (fun _ i _ => m - (intOf i).toNat)
  case atStart => exact ⟨0, [], rfl, Nat.zero_le _, rfl, OwnP.nil _ _, fun x hx => absurd hx (by simp), rfl, Below.refl _ _⟩
  case round =>
    obtain ⟨j, L, rfl, hj, hLl, ho, hin, hjp, hb⟩ := hrel
    rw [HM.out] at hj
    have bw : Below w.heap.size w wr := B2.out.trans (hb.mono B2.out.size)
    by_cases hlt : (j : Int) < m
    · have hjm : j < m := by omega
      obtain ⟨x, ex⟩ : ∃ x, P[j]? = some x := ⟨_, List.getElem?_eq_getElem (by rw [HM.out]; exact hjm)⟩
      have hxP := List.mem_of_getElem? ex
      obtain ⟨A, n, c, l', cc, cur, ef, ech, hi⟩ := KV.out x hxP
      obtain ⟨g, off, e, hg, hx⟩ := PI.out.2.2 (by rw [HM.out]; omega)
      have x0 := hx j (by rw [HM.out]; exact hjm)
      rw [show (ints P).getD j 0 = (x : Int) by simp [ints, List.getD, ex]] at x0
      subst e
      have y0 := (hb.cell (p := ⟨g, off + j, none⟩) hg).trans x0
      have i0 : (0 : Int) ≤ (j : Int) := by omega
      have jb : j < 4096 := by have := HPL.out; have := HM.out; omega
      have la := KL.out x wr cc A n c cur hxP bw ef
      have hf1 := run_field1 cc cur (.slice A n c) wr
      have d1 : wr.cell? ⟨tb, 1, none⟩ = some (.map (some mb)) := (((H0.out.keep bw).row).cell 1).trans rfl
      have HO := Lib.hid ho
      have HIN : Hid (InP w (L ++ [(.slice A n c, l', cur)])) := Lib.hid (fun z hz => by
        rcases List.mem_append.1 hz with h5 | h5
        · exact hin z h5
        · obtain rfl := List.mem_singleton.1 h5
          exact ⟨A, n, c, rfl, hi⟩)
      have HJ : Hid (joinP (L ++ [(.slice A n c, l', cur)]) = (P.take (j + 1)).flatMap (fun x : Nat => chunksOf st (x : Int))) := Lib.hid (by
        rw [flat_take _ ex, ← hjp, ech]; simp [joinP])
      have HLl := Lib.hid hLl
      have HB := Lib.hid hb
      have BW := Lib.hid bw
      have HI := Lib.hid hi
      clear hx x0 ex hxP ef ech hi ho hin hjp hLl hb bw
      go_wp2_with (at_builtin; refine app_listP rfl (.tmp 31) (.tmp 39) rfl w2.heap.size _ L rfl (HO.out.keep (by exact (by repeat (first | exact Below.refl _ _ | assumption | refine bel_drew ?_ | refine bel_drewN ?_ _ | refine bel_alloc ?_ _ | refine bel_set ?_ (by first | (dsimp only; omega) | (simp; done) | (simp; omega)) _ | refine bel_trans ?_ (by assumption))))) (some ⟨wr.heap.size, 0, none⟩) 1 1 [(.slice A n c, l', cur)] rfl (srcP_one wr A n c l' cur) (by
        intro z hz
        obtain rfl := List.mem_singleton.1 hz
        exact ⟨A, n, c, rfl, HI.out.keep (BW.out.trans (bel_alloc (Below.refl wr.heap.size wr) _ |>.mono BW.out.size))⟩) (by have := HLl.out; have := HPL.out; have := HM.out; omega) (Nat.le_trans HB.out.size (by simp)) ?_; intro v1 w1 ho1 hb1; replace ho1 := Lib.hid ho1; replace hb1 := Lib.hid (HB.out.trans (((bel_alloc (Below.refl wr.heap.size wr) _).mono HB.out.size).trans hb1)))
      go_roundw
      case rel => exact ⟨j + 1, _, by go_num, by rw [HM.out]; omega, by simp [HLl.out], ho1.out, HIN.out, HJ.out, hb1.out⟩
      case measure => simp [intOf]; omega
    · have hjm : j = m := by omega
      subst hjm
      rw [List.take_of_length_le (by rw [HM.out]; exact Nat.le_refl _)] at hjp
      obtain ⟨A, c, rfl, hpg⟩ := ho.pages (hin.keep bw)
      rw [hLl] at hpg ⊢
      have KJ := page_JoinO (c := c) hpg (by rw [hjp]; exact HL.out) (by have := HPL.out; have := HM.out; omega)
      rw [hjp] at KJ
      replace KJ := Lib.hid KJ
      replace bw := Lib.hid bw
      clear hpg ho hin hjp hb
      go_wp2_with fail
      refine KJ.out.mono ?_
      rintro e w3 ⟨v3, rfl, o3, b3⟩
      have O3 := Lib.hid (o3.mono (B' := w.heap.size) bw.out.size)
      have B3 := Lib.hid (bw.out.trans (b3.mono bw.out.size))
      clear o3 b3
      go_wp2_with fail
      exact bodyPost_ret (v := .tuple #[v3, .int .i64 0]) (by simp [results, Try.results96, go_sem]) rfl ⟨v3, rfl, O3.out, B3.out⟩
end Go.Proofs.Ytdhcmnbajkpjiaa
/-
  Nodes that are dropped one behind the other, each behind all its children: plain law.
-/
namespace Go.Proofs.Ytdhcmnbajkpjiaa
set_option linter.unusedVariables false
set_option linter.unusedSimpArgs false

def dropsS (S : FSt) (l : List Nat) : FSt := l.foldl (fun (S : FSt) (p : Nat) => S.drop 4096 (p : Int)) S
def cutsN (N : List Nat) (l : List Nat) : List Nat := l.foldl PC.cut N
theorem dropsS_app (S : FSt) (l m : List Nat) : dropsS S (l ++ m) = dropsS (dropsS S l) m := by unfold dropsS; rw [List.foldl_append]
theorem cutsN_app (N l m : List Nat) : cutsN N (l ++ m) = cutsN (cutsN N l) m := by unfold cutsN; rw [List.foldl_append]
theorem dropsS_one (S : FSt) (p : Nat) : dropsS S [p] = S.drop 4096 (p : Int) := rfl
theorem cutsN_one (N : List Nat) (p : Nat) : cutsN N [p] = PC.cut N p := rfl
theorem drop_up (S : FSt) (n : Nat) (x : Int) : (S.drop n x).up = S.up := by unfold FSt.drop; split <;> rfl
theorem dropsS_up : ∀ (l : List Nat) (S : FSt), (dropsS S l).up = S.up
  | [], S => rfl
  | p :: l, S => by
    show (dropsS (S.drop 4096 (p : Int)) l).up = _
    rw [dropsS_up l, drop_up]
theorem getD_set_ne {l : List Int} {i j : Nat} {v : Int} (h : i ≠ j) : (l.set i v).getD j 0 = l.getD j 0 := by
  simp [List.getD, List.getElem?_set, h]
theorem drop_g (S : FSt) (n p x : Nat) (h : x ≠ p) : (S.drop n (p : Int)).g.getD x 0 = S.g.getD x 0 := by
  unfold FSt.drop
  split
  · show (S.g.set ((p : Int)).toNat _).getD x 0 = _
    rw [getD_set_ne (by omega)]
  · rfl
theorem dropsS_g : ∀ (l : List Nat) (S : FSt) (x : Nat), x ∉ l → (dropsS S l).g.getD x 0 = S.g.getD x 0
  | [], S, x, _ => rfl
  | p :: l, S, x, h => by
    show (dropsS (S.drop 4096 (p : Int)) l).g.getD x 0 = _
    rw [dropsS_g l _ x (fun h2 => h (by simp [h2])), drop_g _ _ _ _ (fun h2 => h (by simp [h2]))]
theorem cutsN_nodup : ∀ (l N : List Nat), N.Nodup → (cutsN N l).Nodup
  | [], N, h => h
  | p :: l, N, h => by
    show (cutsN (PC.cut N p) l).Nodup
    exact cutsN_nodup l _ (by rw [cut_erase]; exact h.erase _)
theorem cutsN_mem : ∀ (l N : List Nat) (x : Nat), N.Nodup → (x ∈ cutsN N l ↔ x ∈ N ∧ x ∉ l)
  | [], N, x, h => by simp [cutsN]
  | p :: l, N, x, h => by
    show x ∈ cutsN (PC.cut N p) l ↔ _
    rw [cutsN_mem l _ x (by rw [cut_erase]; exact h.erase _), cut_erase, h.mem_erase_iff]
    simp only [List.mem_cons, not_or]
    constructor
    · rintro ⟨⟨h1, h2⟩, h3⟩; exact ⟨h2, h1, h3⟩
    · rintro ⟨h1, h2, h3⟩; exact ⟨⟨h2, h1⟩, h3⟩
theorem postW_nodup {N : List Nat} {up : List Int} (hO : Ord N up) (x : Int) : (postW N up x).Nodup := by
  by_cases hx : 0 ≤ x ∧ x.toNat ∈ N
  · rw [postW_yes hx]; exact PW.post_nodup hO.is _
  · rw [postW_no hx]; exact List.nodup_nil
theorem postW_mem {N : List Nat} {up : List Int} (hO : Ord N up) (x : Int) (z : Nat) : z ∈ postW N up x ↔ z ∈ preW N up x := by
  by_cases hx : 0 ≤ x ∧ x.toNat ∈ N
  · rw [postW_yes hx, preW_yes hx]; exact PW.mem_post hO.is.hk _ z
  · rw [postW_no hx, preW_no hx]
theorem preW_in {N : List Nat} {up : List Int} (hO : Ord N up) (x : Int) {z : Nat} (h : z ∈ preW N up x) : z ∈ N := by
  by_cases hx : 0 ≤ x ∧ x.toNat ∈ N
  · rw [preW_yes hx] at h; exact PW.pre_in hO.is _ hx.2 z h
  · rw [preW_no hx] at h; cases h
/-- Each node's children stand ahead of it in the order of children first. -/
theorem post_kids {N : List Nat} {up : List Int} (hO : Ord N up) (q : Int) {j y : Nat} (hj : (postW N up q)[j]? = some y) {c : Nat} (hc : c ∈ N) (hu : up.getD c 0 = (y : Int)) : c ∈ (postW N up q).take j := by
  have hx : 0 ≤ q ∧ q.toNat ∈ N := by
    by_cases hx : 0 ≤ q ∧ q.toNat ∈ N
    · exact hx
    · rw [postW_no hx] at hj; simp at hj
  have hjl : j < (postW N up q).length := (List.getElem?_eq_some_iff.1 hj).1
  have hy : (postW N up q)[j] = y := by rw [List.getElem?_eq_getElem hjl] at hj; exact Option.some.inj hj
  have hs : postW N up q = (postW N up q).take j ++ y :: (postW N up q).drop (j + 1) := by
    conv => lhs; rw [← List.take_append_drop j (postW N up q), List.drop_eq_getElem_cons hjl, hy]
  have hnd := postW_nodup hO q
  have hs2 := hs
  rw [postW_yes hx] at hs2
  rw [hs] at hnd
  have hnd2 := List.nodup_append.1 hnd
  have hf := PW.find_post hO.is.hk q.toNat ((postW N up q).take j) ((PW.post (childW N up) (rkW N) q.toNat).take j) ((PW.post (childW N up) (rkW N) q.toNat).drop (j + 1)) y
    (by rw [postW_yes hx] at hs; exact hs) (fun z hz => by rw [postW_yes hx]; exact hz) (fun z hz hz2 => by
      rw [← postW_yes hx] at hz
      exact hnd2.2.2 z hz2 z hz rfl)
  have ho := List.find?_some hf
  unfold PW.ok at ho
  simp only [Bool.and_eq_true, decide_eq_true_eq, List.all_eq_true] at ho
  exact ho.2 c (by
    unfold childW childN
    rw [List.mem_filter, decide_eq_true_eq]
    exact ⟨hc, hu⟩)
theorem drop_ok {N : List Nat} {S : FSt} (hO : Ord N S.up) (q : Int) {j y : Nat} (hj : (postW N S.up q)[j]? = some y) (hr : NRel 4096 (dropsS S ((postW N S.up q).take j)) (cutsN N ((postW N S.up q).take j)))
    (hy4 : y < 4096) : dropOk (dropsS S ((postW N S.up q).take j)).O (dropsS S ((postW N S.up q).take j)).R (y : Int) = true := by
  have hjl : j < (postW N S.up q).length := (List.getElem?_eq_some_iff.1 hj).1
  have hy : (postW N S.up q)[j] = y := by rw [List.getElem?_eq_getElem hjl] at hj; exact Option.some.inj hj
  have hyP : y ∈ postW N S.up q := hy ▸ List.getElem_mem hjl
  have hyN : y ∈ N := preW_in hO q ((postW_mem hO q y).1 hyP)
  have hyt : y ∉ (postW N S.up q).take j := fun h => by
    have hnd := postW_nodup hO q
    rw [← List.take_append_drop j (postW N S.up q), List.drop_eq_getElem_cons hjl, hy] at hnd
    exact (List.nodup_append.1 hnd).2.2 y h y (by simp) rfl
  unfold dropOk
  rw [Bool.and_eq_true, decide_eq_true_eq, decide_eq_true_eq]
  refine ⟨in_ints.2 ((hr.mem y).1 ((cutsN_mem _ _ y hO.nd).2 ⟨hyN, hyt⟩)), ?_⟩
  rw [show ((y : Int)).toNat = y by omega, hr.kid y hy4, dropsS_up]
  unfold childN
  rw [List.filter_eq_nil_iff]
  intro c hc
  have hc2 := (cutsN_mem _ _ c hO.nd).1 hc
  rw [decide_eq_true_eq]
  intro hu
  exact hc2.2 (post_kids hO q hj hc2.1 hu)
end Go.Proofs.Ytdhcmnbajkpjiaa
