/- The law WalkPaths of copyholdlaw38: for every input the call returns true, and each argument reads behind the call as it read before. No condition. -/
import Derived.Test.YtdhcmnbajkpjiaaPartWalkPaths1
import Derived.Test.YtdhcmnbajkpjiaaPartWalkPaths11
namespace Go.Proofs.Ytdhcmnbajkpjiaa.lawWalkPaths
open Go.ChangeShapes Go.WideShapes Go.ChangeAt Go.RowKit Go.Deep
open Go.ChangeMaps (open_string shut_string)
set_option linter.unusedVariables false

theorem own : ownKnob Try.prog.godebug = none := by kernel_rfl

set_option maxRecDepth 100000 in
theorem walked (H : Type) (enc : TypeId × Value → H) (W : World) (args : Array Value) (ds : List (DataW H)) (ps : List MemPlace) (base : Nat)
    (hval0 : ∀ (j : Nat) t v, Try.f14.params[j]? = some t → args[j]? = some v → Value.okWide Try.prog W .any base t v)
    (hA : DataW.TrodAll enc Try.prog W 0 (fun _ => true) true Try.f14.params.toList args.toList ds ps) :
    Calls Try.prog 14 args W fun e W' => e = .returned (.bool true) ∧ Below W.heap.size W W' := by
  have hval : ∀ (j : Nat) t v, Try.f14.params[j]? = some t → args[j]? = some v → Value.okWide Try.prog W .any base t v := hval0
  clear hval0
  rw [Try.params14] at hA hval
  obtain ⟨v0, vs0, d0, ds0, p0, q0, hargs, rfl, rfl, h0, r0⟩ := trodAll_cons hA
  obtain ⟨v1, vs1, d1, ds1, p1, q1, rfl, rfl, rfl, h1, r1⟩ := trodAll_cons r0
  obtain ⟨rfl, rfl, rfl⟩ := trodAll_nil r1
  obtain rfl : args = #[v0, v1] := by cases args; simp_all
  obtain ⟨s0, len0, cap0, rfl⟩ := okWide_slice Try.underlying22 (hval 0 22 v0 rfl rfl)
  obtain ⟨xs0, w0⟩ := Fr.open_bytes Try.underlying22 Try.underlying5 (by kernel_rfl) h0 (hval 0 22 _ rfl rfl)
  obtain ⟨l1, hl1, rfl, hr1⟩ := Fr.flat_ints (n := 2) (it := 3) (k := .i64) (Or.inr ⟨_, _, Try.underlying32⟩) (by kernel_rfl) (by kernel_rfl) Try.underlying3 (hval 1 32 v1 rfl rfl)
  obtain ⟨x1_0, x1_1, rfl⟩ := Fr.list_2 hl1
  have b1_0 : _ := hr1 x1_0 (by simp)
  have b1_1 : _ := hr1 x1_1 (by simp)
  exact law38_WalkPaths s0 len0 cap0 xs0 x1_0 x1_1 W w0

set_option maxRecDepth 100000 in
theorem holds : Rows.WalkPathsSaid :=
  OpenClaim.holds_of_wide 14 Try.f14 rfl rfl rfl rfl rfl rfl rfl ⟨rfl, rfl, rfl, rfl, rfl⟩ rfl rfl rfl rfl rfl (by kernel_rfl) Try.func14 (by kernel_rfl)
    (of_decide_eq_true (by kernel_rfl)) (by unfold Func.isWrapper; rw [if_neg (of_decide_eq_false (by kernel_rfl))]; exact ⟨rfl, rfl⟩)
    (fun os started H enc _ => Fr.lifted (C := Try.checked) (f := 14) (fn := Try.f14) (s := Rows.walkPathsSpec) (enc := enc) 4 2 own started (by kernel_rfl) Try.func14
      (ChangeSpec.witness6 (enc := enc) (C := Try.checked) false ⟨#[], #[.slice none 0 0, .agg #[.int .i64 0, .int .i64 0]], []⟩ 8 (by kernel_rfl) (by kernel_rfl) (by kernel_rfl) (by kernel_rfl))
      rfl (by kernel_rfl) (fun ds h => by match ds, h with | [_, _], _ => exact ⟨rfl, rfl, rfl⟩)
      (by kernel_rfl) Try.underlying4 (by kernel_rfl) (by kernel_rfl) (fun W args ds ps base hv hA => walked H enc W args ds ps base hv hA))
#print axioms holds
end Go.Proofs.Ytdhcmnbajkpjiaa.lawWalkPaths
