/- The law GrantParts of copyholdlaw35: for every input the call returns true, and each argument reads behind the call as it read before. No condition. -/
import Derived.Test.YthmjbfocpdiikaaPartGrantParts1
import Derived.Test.YthmjbfocpdiikaaPartGrantParts7
namespace Go.Proofs.Ythmjbfocpdiikaa.lawGrantParts
open Go.ChangeShapes Go.WideShapes Go.ChangeAt Go.RowKit Go.Deep
open Go.ChangeMaps (open_string shut_string)
set_option linter.unusedVariables false

theorem own : ownKnob Try.prog.godebug = none := by kernel_rfl

set_option maxRecDepth 100000 in
theorem walked (H : Type) (enc : TypeId × Value → H) (W : World) (args : Array Value) (ds : List (DataW H)) (ps : List MemPlace) (base : Nat)
    (hval0 : ∀ (j : Nat) t v, Try.f11.params[j]? = some t → args[j]? = some v → Value.okWide Try.prog W .any base t v)
    (hA : DataW.TrodAll enc Try.prog W 0 (fun _ => true) true Try.f11.params.toList args.toList ds ps) :
    Calls Try.prog 11 args W fun e W' => e = .returned (.bool true) ∧ Below W.heap.size W W' := by
  have hval : ∀ (j : Nat) t v, Try.f11.params[j]? = some t → args[j]? = some v → Value.okWide Try.prog W .any base t v := hval0
  clear hval0
  rw [Try.params11] at hA hval
  obtain ⟨v0, vs0, d0, ds0, p0, q0, hargs, rfl, rfl, h0, r0⟩ := trodAll_cons hA
  obtain ⟨rfl, rfl, rfl⟩ := trodAll_nil r0
  obtain rfl : args = #[v0] := by cases args; simp_all
  obtain ⟨TA0, tn0, tc0, f0, wt0, MA0, mn0, mc0, ts0, ms0, rfl, ht0, htc0, hcm0, hm0, bf0, bw0⟩ := Fr.open_ask (hval 0 45 v0 rfl rfl) h0
  exact law35_GrantParts tc0 mc0 f0 wt0 ht0 hm0 bf0 bw0 htc0 hcm0

set_option maxRecDepth 100000 in
theorem holds : Rows.GrantPartsSaid :=
  OpenClaim.holds_of_wide 11 Try.f11 rfl rfl rfl rfl rfl rfl rfl ⟨rfl, rfl, rfl, rfl, rfl⟩ rfl rfl rfl rfl rfl (by kernel_rfl) Try.func11 (by kernel_rfl)
    (of_decide_eq_true (by kernel_rfl)) (by unfold Func.isWrapper; rw [if_neg (of_decide_eq_false (by kernel_rfl))]; exact ⟨rfl, rfl⟩)
    (fun os started H enc _ => Fr.lifted (C := Try.checked) (f := 11) (fn := Try.f11) (s := Rows.grantPartsSpec) (enc := enc) 4 1 own started (by kernel_rfl) Try.func11
      (ChangeSpec.witness6 (enc := enc) (C := Try.checked) false ⟨#[], #[.agg #[.slice none 0 0, .int .i64 0, .int .i64 0, .slice none 0 0]], []⟩ 8 (by kernel_rfl) (by kernel_rfl) (by kernel_rfl) (by kernel_rfl))
      rfl (by kernel_rfl) (fun ds h => by match ds, h with | [_], _ => exact ⟨rfl, rfl, rfl⟩)
      (by kernel_rfl) Try.underlying4 (by kernel_rfl) (by kernel_rfl) (fun W args ds ps base hv hA => walked H enc W args ds ps base hv hA))
#print axioms holds
end Go.Proofs.Ythmjbfocpdiikaa.lawGrantParts
