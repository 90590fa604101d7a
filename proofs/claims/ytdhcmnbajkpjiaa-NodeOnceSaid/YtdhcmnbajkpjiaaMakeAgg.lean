/-
  make of a slice of structs whose size the walk computes.
-/
import Derived.Test.YtdhcmnbajkpjiaaRow
import Derived.Deep.OwnRows
namespace Go.Proofs.Ytdhcmnbajkpjiaa
open Go.RowKit
set_option linter.unusedVariables false

theorem run_make_agg {P : Program} (t e : TypeId) (zv : Value) (z : Array Value) (size bytes : Nat) (ht : P.underlying t = some (.slice e)) (hinfo : (P.info? e).map (fun i => (i.zero, i.size, i.bytes)) = some (some zv, size, bytes)) (hz1 : zv.cells = z)
    (kl kc : IntKind) (n : Nat) (hbytes : bytes * n ≤ 281474976710656) (h63 : n ≤ 9223372036854775807) (w : World) :
    (Instr.makeSlice t (.int kl (n : Int)) (.int kc (n : Int))).run P w = .ok (.slice (some ⟨w.heap.size, 0, none⟩) n n) (w.alloc (.cells (madeCells z (n * size)) e)) := by
  obtain ⟨i, hi, hzz⟩ := Option.map_eq_some_iff.1 hinfo
  simp only [Prod.mk.injEq] at hzz
  obtain ⟨hz, hs, hb⟩ := hzz
  have hb' : (i.bytes : Int) * (n : Int) ≤ 281474976710656 := by
    have h : ((i.bytes * n : Nat) : Int) ≤ 281474976710656 := by rw [hb]; omega
    rwa [Int.natCast_mul] at h
  have hr := run_make (P := P) w t e i zv ht hi hz kl kc n n (by omega) (Int.le_refl _) hb' (by omega)
  simp only [Int.toNat_natCast, hs, hz1] at hr
  exact hr

theorem filled_made3 (z : Value) (n : Nat) (f : Nat → Value) : madeCells #[z, z, z] n = (filled n 0 f z).toArray := by
  apply Array.ext_getElem?
  intro i
  by_cases hi : i < n
  · have h3 : i % 3 = 0 ∨ i % 3 = 1 ∨ i % 3 = 2 := by omega
    rcases h3 with h | h | h <;> simp [madeCells, filled, hi, h]
  · simp [madeCells, filled, hi]
/-- One cell more that is as it was. -/
theorem filled_same (n k : Nat) (f : Nat → Value) (z : Value) (h : f k = z) : filled n k f z = filled n (k + 1) f z := by
  apply List.ext_getElem?
  intro i
  by_cases hn : i < n
  · rw [filled_get f z hn, filled_get f z hn]
    by_cases h1 : i < k
    · rw [if_pos h1, if_pos (by omega)]
    · rw [if_neg h1]
      by_cases h2 : i = k
      · subst h2; rw [if_pos (by omega), h]
      · rw [if_neg (by omega)]
  · simp [filled, hn]
end Go.Proofs.Ytdhcmnbajkpjiaa
