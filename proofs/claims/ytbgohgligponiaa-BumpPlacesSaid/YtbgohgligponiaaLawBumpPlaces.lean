/- The law BumpPlaces of copyholdlaw09: for every input the call returns true, and each argument reads behind the call as it read before. No condition. -/
import Derived.Test.YtbgohgligponiaaFrame
import Derived.Test.YtbgohgligponiaaBumpC
namespace Go.Proofs.Ytbgohgligponiaa.lawBumpPlaces
open Go.ChangeShapes Go.WideShapes Go.ChangeAt Go.RowKit Go.Deep
open Go.ChangeMaps (open_string shut_string)
set_option linter.unusedVariables false

theorem own : ownKnob Try.prog.godebug = none := by kernel_rfl
theorem bi {x : Int} (h : IntKind.i64.min ≤ x ∧ x ≤ IntKind.i64.max) : -9223372036854775808 ≤ x ∧ x ≤ 9223372036854775807 := by
  simpa [IntKind.min, IntKind.max, IntKind.signed, IntKind.bits] using h

set_option maxRecDepth 100000 in
theorem walked (H : Type) (enc : TypeId × Value → H) (W : World) (args : Array Value) (ds : List (DataW H)) (ps : List MemPlace) (base : Nat)
    (hval0 : ∀ (j : Nat) t v, Try.f9.params[j]? = some t → args[j]? = some v → Value.okWide Try.prog W .any base t v)
    (hA : DataW.TrodAll enc Try.prog W 0 (fun _ => true) true Try.f9.params.toList args.toList ds ps) :
    Calls Try.prog 9 args W fun e W' => e = .returned (.bool true) ∧ Below W.heap.size W W' := by
  have hval : ∀ (j : Nat) t v, Try.f9.params[j]? = some t → args[j]? = some v → Value.okWide Try.prog W .any base t v := hval0
  clear hval0
  rw [Try.params9] at hA hval
  obtain ⟨v0, vs0, d0, ds0, p0, q0, hargs, rfl, rfl, h0, r0⟩ := trodAll_cons hA
  obtain ⟨rfl, rfl, rfl⟩ := trodAll_nil r0
  obtain rfl : args = #[v0] := by cases args; simp_all
  obtain ⟨l0, hl0, rfl, hr0⟩ := Fr.flat_ints (n := 4) (it := 3) (k := .i64) (Or.inr ⟨_, _, Try.underlying22⟩) (by kernel_rfl) (by kernel_rfl) Try.underlying3 (hval 0 22 v0 rfl rfl)
  obtain ⟨x0_0, x0_1, x0_2, x0_3, rfl⟩ := Fr.list_4 hl0
  have b0_0 : _ := hr0 x0_0 (by simp)
  have b0_1 : _ := hr0 x0_1 (by simp)
  have b0_2 : _ := hr0 x0_2 (by simp)
  have b0_3 : _ := hr0 x0_3 (by simp)
  exact law09_BumpPlaces x0_0 x0_1 x0_2 x0_3 W (bi b0_0) (bi b0_1) (bi b0_2) (bi b0_3)

theorem holds : Rows.BumpPlacesSaid :=
  OpenClaim.holds_of_wide 9 Try.f9 rfl rfl rfl rfl rfl rfl rfl ⟨rfl, rfl, rfl, rfl, rfl⟩ rfl rfl rfl rfl rfl (by kernel_rfl) Try.func9 (by kernel_rfl)
    (of_decide_eq_true (by kernel_rfl)) (by unfold Func.isWrapper; rw [if_neg (of_decide_eq_false (by kernel_rfl))]; exact ⟨rfl, rfl⟩)
    (fun os started H enc _ => Fr.lifted (C := Try.checked) (f := 9) (fn := Try.f9) (s := Rows.bumpPlacesSpec) (enc := enc) 4 1 own started (by kernel_rfl) Try.func9
      (ChangeSpec.witness6 (enc := enc) (C := Try.checked) false ⟨#[], #[.agg #[.int .i64 0, .int .i64 0, .int .i64 0, .int .i64 0]], []⟩ 8 (by kernel_rfl) (by kernel_rfl) (by kernel_rfl) (by kernel_rfl))
      rfl (by kernel_rfl) (fun ds h => by match ds, h with | [_], _ => exact ⟨rfl, rfl, rfl⟩)
      (by kernel_rfl) Try.underlying4 (by kernel_rfl) (by kernel_rfl) (fun W args ds ps base hv hA => walked H enc W args ds ps base hv hA))
#print axioms holds
end Go.Proofs.Ytbgohgligponiaa.lawBumpPlaces
