/-
  Members that came in.
-/
import Derived.Test.YthmjbfocpdiikaaMemA
import Derived.Test.YthmjbfocpdiikaaFrame2
namespace Go.Proofs.Ythmjbfocpdiikaa
open Go.RowKit
set_option linter.unusedVariables false

theorem mem_of_rows {w : World} {a : Option Addr} {len cap : Nat} {F : Nat → Nat → Int} (h : Fr.IsRows w 4 a len cap F) : ∃ l, MemAt w a len l := by
  rcases h with ⟨rfl, rfl, rfl⟩ | ⟨b, off, rfl, hb, hl, hm, hc⟩
  · exact ⟨[], MemAt.nil⟩
  · refine ⟨(List.range len).map (fun i => (F i 0, F i 1, F i 2, F i 3)), by simp, by unfold maxLen at hm; omega, fun m hmm => ?_, fun h0 => ⟨b, off, rfl, hb h0, fun i hi => ?_⟩⟩
    · obtain ⟨i, hi, rfl⟩ := List.mem_map.1 hmm
      have hi' : i < cap := by simp at hi; omega
      exact ⟨(hc i hi' 0 (by omega)).2, (hc i hi' 1 (by omega)).2, (hc i hi' 2 (by omega)).2, (hc i hi' 3 (by omega)).2⟩
    · have e : ((List.range len).map (fun i => ((F i 0, F i 1, F i 2, F i 3) : PO.Mem))).getD i PO.m0 = (F i 0, F i 1, F i 2, F i 3) := by simp [List.getD, hi]
      rw [e]
      have hi' : i < cap := by omega
      exact ⟨(hc i hi' 0 (by omega)).1, (hc i hi' 1 (by omega)).1, (hc i hi' 2 (by omega)).1, (hc i hi' 3 (by omega)).1⟩

set_option maxRecDepth 100000 in
theorem memFlat {H : Type} (enc : TypeId × Value → H) (w : World) : Fr.FlatInt enc Try.prog w (fun _ => true) 34 4 := by
  have hc1 : Try.prog.cellsOf 3 = 1 := by kernel_rfl
  have hc3 : Try.prog.cellsOf 32 = 3 := by kernel_rfl
  have hi : Fr.FlatInt enc Try.prog w (fun _ => true) 3 (Try.prog.cellsOf 3) := by rw [hc1]; exact Fr.FlatInt.int Try.underlying3
  have ha : Fr.FlatInt enc Try.prog w (fun _ => true) 32 (Try.prog.cellsOf 32) := by
    rw [hc3]
    refine Fr.FlatInt.struct (S := 3) Try.underlying32 (by kernel_rfl) (fun j hj => ?_)
    have hj' : j = 0 ∨ j = 1 ∨ j = 2 := by omega
    rcases hj' with rfl | rfl | rfl
    · exact ⟨0, _, rfl, Nat.zero_le _, by show 0 < 0 + Try.prog.cellsOf 3; rw [hc1]; omega, hi⟩
    · exact ⟨1, _, rfl, Nat.le_refl 1, by show 1 < 1 + Try.prog.cellsOf 3; rw [hc1]; omega, hi⟩
    · exact ⟨2, _, rfl, Nat.le_refl 2, by show 2 < 2 + Try.prog.cellsOf 3; rw [hc1]; omega, hi⟩
  refine Fr.FlatInt.struct (S := 4) Try.underlying34 (by kernel_rfl) (fun j hj => ?_)
  have hj' : j = 0 ∨ (1 ≤ j ∧ j < 4) := by omega
  rcases hj' with rfl | ⟨h1, h2⟩
  · exact ⟨0, _, rfl, Nat.zero_le _, by show 0 < 0 + Try.prog.cellsOf 3; rw [hc1]; omega, hi⟩
  · exact ⟨1, _, rfl, h1, by show j < 1 + Try.prog.cellsOf 32; rw [hc3]; omega, ha⟩
end Go.Proofs.Ythmjbfocpdiikaa
