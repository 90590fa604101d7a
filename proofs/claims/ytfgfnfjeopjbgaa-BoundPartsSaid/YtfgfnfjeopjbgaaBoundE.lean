/-
  Layer 47 (bound): told's deferred closure.
-/
import Derived.Test.YtfgfnfjeopjbgaaBoundC
import Derived.Recover
namespace Go.Proofs.Ytfgfnfjeopjbgaa
open Go.RowKit
set_option linter.unusedVariables false
attribute [local go_sem] drewN_alloc drewN_setCell

theorem told_idle (a b : Addr) (w : World) :
    CallsD Try.prog 93 #[.pointer (some a), .pointer (some b)] .returning w fun e u' w' => e = .returned (.tuple #[]) ∧ u' = .returning ∧ w = w' := by
  refine callsD_of_wpS Try.func93 rfl fun c₀ cs hu => ?_
  apply wpS_seq
  apply wpS_region
  simp [wpOpsS, go_sem, recoverD, hu, Try.ntmps93, Exit.thenS]
  refine wpS_of_wp ?_
  go_wp2_with fail
  cases c₀
  simp_all [bodyPostS, results, Try.results93]

set_option maxRecDepth 100000 in
set_option maxHeartbeats 1000000 in
theorem told_over (a b : Nat) (x : Int) (y : Bool) (w : World) (ha : w.cell? ⟨a, 0, none⟩ = some (.int .i64 x)) (hb : w.cell? ⟨b, 0, none⟩ = some (.bool y)) (fa : w.frozen? ⟨a, 0, none⟩ = false) (fb : w.frozen? ⟨b, 0, none⟩ = false) (la : a < w.heap.size) (lb : b < w.heap.size) (hab : a ≠ b) :
    CallsD Try.prog 93 #[.pointer (some ⟨a, 0, none⟩), .pointer (some ⟨b, 0, none⟩)] (.panicking [{ v := .iface 102 (.agg #[]), recovered := false }]) w fun e u' w' =>
      e = .returned (.tuple #[]) ∧ u' = .panicking [{ v := .iface 102 (.agg #[]), recovered := true }] ∧ ((w.setCell ⟨a, 0, none⟩ (.int .i64 0)).setCell ⟨b, 0, none⟩ (.bool false)).alloc (.cells #[] 102) = w' := by
  have hta : ∀ w : World, (Instr.typeAssert (.iface 102 (.agg #[])) 20 102 true).run Try.prog w = .ok (.tuple #[.agg #[], .bool true]) w := fun _ => by kernel_rfl
  refine callsD_of_wpS Try.func93 rfl fun c₀ cs hu => ?_
  apply wpS_seq
  apply wpS_region
  simp [wpOpsS, go_sem, recoverD, hu, Try.ntmps93, Exit.thenS]
  apply wpS_seq
  apply wpS_region
  simp [wpOpsS, go_sem, Exit.thenS, Array.replicate]
  refine wpS_cond (t := true) (by simp [Act.eval]) ?_
  simp only [if_true]
  apply wpS_seq
  apply wpS_seq
  apply wpS_region
  simp [wpOpsS, go_sem, Exit.thenS, hta]
  refine wpS_of_wp ?_
  go_wp2_with fail
  change Code.wpS _ _ _ _ _ _
  apply wpS_region
  simp [wpOpsS, go_sem, ha, hb, fa, fb, la, lb, bodyPostS, results, Try.results93]
end Go.Proofs.Ytfgfnfjeopjbgaa
