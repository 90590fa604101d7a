/- The law RegionRoom of copyholdlaw40: for every input the call returns true, and each argument reads behind the call as it read before. No condition. -/
import Derived.Test.YtdhcmnbajkpjiaaPartRegionRoom1
import Derived.Test.YtdhcmnbajkpjiaaPartRegionRoom11
namespace Go.Proofs.Ytdhcmnbajkpjiaa.lawRegionRoom
open Go.ChangeShapes Go.WideShapes Go.ChangeAt Go.RowKit Go.Deep
open Go.ChangeMaps (open_string shut_string)
set_option linter.unusedVariables false

theorem own : ownKnob Try.prog.godebug = none := by kernel_rfl

set_option maxRecDepth 100000 in
theorem walked (H : Type) (enc : TypeId × Value → H) (W : World) (args : Array Value) (ds : List (DataW H)) (ps : List MemPlace) (base : Nat)
    (hval0 : ∀ (j : Nat) t v, Try.f15.params[j]? = some t → args[j]? = some v → Value.okWide Try.prog W .any base t v)
    (hA : DataW.TrodAll enc Try.prog W 0 (fun _ => true) true Try.f15.params.toList args.toList ds ps) :
    Calls Try.prog 15 args W fun e W' => e = .returned (.bool true) ∧ Below W.heap.size W W' := by
  have hval : ∀ (j : Nat) t v, Try.f15.params[j]? = some t → args[j]? = some v → Value.okWide Try.prog W .any base t v := hval0
  clear hval0
  rw [Try.params15] at hA hval
  obtain ⟨v0, vs0, d0, ds0, p0, q0, hargs, rfl, rfl, h0, r0⟩ := trodAll_cons hA
  obtain ⟨rfl, rfl, rfl⟩ := trodAll_nil r0
  obtain rfl : args = #[v0] := by cases args; simp_all
  obtain ⟨s0, len0, cap0, rfl⟩ := okWide_slice Try.underlying108 (hval 0 108 v0 rfl rfl)
  obtain ⟨F0, w0⟩ := (Fr.open_rows (S := 2) Try.underlying108 (by kernel_rfl) (by omega) (Fr.FlatInt.array (S := 1) Try.underlying32 (Fr.FlatInt.int Try.underlying3) (by kernel_rfl) (by kernel_rfl) (by omega))) h0 (hval 0 108 _ rfl rfl)
  exact law40_RegionRoom s0 len0 cap0 F0 W w0

set_option maxRecDepth 100000 in
theorem holds : Rows.RegionRoomSaid :=
  OpenClaim.holds_of_wide 15 Try.f15 rfl rfl rfl rfl rfl rfl rfl ⟨rfl, rfl, rfl, rfl, rfl⟩ rfl rfl rfl rfl rfl (by kernel_rfl) Try.func15 (by kernel_rfl)
    (of_decide_eq_true (by kernel_rfl)) (by unfold Func.isWrapper; rw [if_neg (of_decide_eq_false (by kernel_rfl))]; exact ⟨rfl, rfl⟩)
    (fun os started H enc _ => Fr.lifted (C := Try.checked) (f := 15) (fn := Try.f15) (s := Rows.regionRoomSpec) (enc := enc) 4 1 own started (by kernel_rfl) Try.func15
      (ChangeSpec.witness6 (enc := enc) (C := Try.checked) false ⟨#[], #[.slice none 0 0], []⟩ 8 (by kernel_rfl) (by kernel_rfl) (by kernel_rfl) (by kernel_rfl))
      rfl (by kernel_rfl) (fun ds h => by match ds, h with | [_], _ => exact ⟨rfl, rfl, rfl⟩)
      (by kernel_rfl) Try.underlying4 (by kernel_rfl) (by kernel_rfl) (fun W args ds ps base hv hA => walked H enc W args ds ps base hv hA))
#print axioms holds
end Go.Proofs.Ytdhcmnbajkpjiaa.lawRegionRoom
