/-
  More small lemmas on worlds for the walks.
-/
import Derived.Test.YtdhcmnbajkpjiaaBase2
namespace Go.Proofs.Ytdhcmnbajkpjiaa
open Go.RowKit

/-- The world at a region, under a name of its own. -/
theorem region_name {P : Program} {c : Code} {Q : Exit → Act → World → Prop} {a : Act} {w : World} (h : ∀ W, W = w → c.wp P Q a W) : c.wp P Q a w := h w rfl
end Go.Proofs.Ytdhcmnbajkpjiaa
