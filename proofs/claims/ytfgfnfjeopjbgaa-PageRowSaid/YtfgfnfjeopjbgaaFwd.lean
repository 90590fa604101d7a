/-
  A scope from which the run jumps ahead to one label.
-/
import Derived.Test.YtfgfnfjeopjbgaaBase2
import Derived.ScopeJumps
namespace Go

theorem wp_scope_ahead {P : Program} {a : Act} {w : World} {Q : Exit → Act → World → Prop} {c rest : Code} (l : Nat) (hf : findLabel c l = some rest)
    (first : c.wp P (Exit.jump l (fun a' w' => rest.wp P (Exit.jump l (fun _ _ => False) Q) a' w') Q) a w) : (Code.scope c).wp P Q a w := by
  refine wp_scope_jumps l _ (fun _ _ => 0) hf first ?_
  intro a' w' h
  refine wp_mono h ?_
  intro e a2 w2 hq
  cases e <;> first | exact hq | exact ⟨hq.1, hq.2.elim⟩
end Go
