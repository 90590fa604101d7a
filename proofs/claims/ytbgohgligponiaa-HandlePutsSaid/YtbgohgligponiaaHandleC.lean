/-
  The contract of handle.Put.
-/
import Derived.Test.YtbgohgligponiaaPlainHandle
import Derived.Test.YtbgohgligponiaaHandleA
namespace Go.Proofs.Ytbgohgligponiaa
open Go.RowKit

theorem handle_Put (k p g o : Int) (w : World) :
    Calls Try.prog 13 #[.int .i64 k, .int .i64 p, .int .i64 g, .int .i64 o] w fun e w' =>
      e = .returned (.tuple #[.int .i64 (PH.put k p g o).1, .int .i64 (PH.put k p g o).2]) ∧ Below w.heap.size w w' := by
  by_cases k1 : 1 ≤ k
  · by_cases k2 : k ≤ 3
    · by_cases p1 : 0 ≤ p
      · by_cases p2 : p ≤ 1048575
        · by_cases g1 : 0 ≤ g
          · by_cases g2 : g ≤ 1048575
            · by_cases o1 : 0 ≤ o
              · by_cases o2 : o ≤ 1048575
                · rw [PH.put_good k1 k2 ⟨p1, p2⟩ ⟨g1, g2⟩ ⟨o1, o2⟩]; exact handle_Put_good k p g o w k1 k2 p1 p2 g1 g2 o1 o2
                · rw [PH.put_over k1 k2 (by omega)]; exact handle_Put_o2 k p g o w k1 k2 p1 p2 g1 g2 o1 (by simpa using o2)
              · rw [PH.put_over k1 k2 (by omega)]; exact handle_Put_o1 k p g o w k1 k2 p1 p2 g1 g2 (by simpa using o1)
            · rw [PH.put_over k1 k2 (by omega)]; exact handle_Put_g2 k p g o w k1 k2 p1 p2 g1 (by simpa using g2)
          · rw [PH.put_over k1 k2 (by omega)]; exact handle_Put_g1 k p g o w k1 k2 p1 p2 (by simpa using g1)
        · rw [PH.put_over k1 k2 (by omega)]; exact handle_Put_p2 k p g o w k1 k2 p1 (by simpa using p2)
      · rw [PH.put_over k1 k2 (by omega)]; exact handle_Put_p1 k p g o w k1 k2 (by simpa using p1)
    · rw [PH.put_kind (by omega)]; exact handle_Put_k2 k p g o w k1 (by simpa using k2)
  · rw [PH.put_kind (by omega)]; exact handle_Put_k1 k p g o w (by simpa using k1)
end Go.Proofs.Ytbgohgligponiaa
