/-
  A call that panics inside a region that draws: the way ends there; what is left of the way stands under a hidden 'False'.
-/
import Derived.WalkKit
import Derived.Below
import Derived.Lib.Hide
namespace Go.Proofs.Ytfgfnfjeopjbgaa
open Go.RowKit

/-- A call that panics: its post is shown; the rest of the region may be walked with any value under a hidden 'False'. -/
theorem calls_dead {P : Program} {f : FuncId} {args : Array Value} {w : World} {R C : Ending → World → Prop} (v : Value) (hC : Calls P f args w C)
    (hR : ∀ e w', C e w' → R e w') (_dead : Hid False → R (.returned v) w) : Calls P f args w R := hC.mono hR
/-- Under a hidden 'False' every call gives what one likes. -/
theorem calls_gone {P : Program} {f : FuncId} {args : Array Value} {w : World} {R : Ending → World → Prop} (v : Value) (h : Hid False) (_d : R (.returned v) w) : Calls P f args w R := h.out.elim
end Go.Proofs.Ytfgfnfjeopjbgaa
