/- The law PageLays of copyholdlaw39: for every input the call returns true, and each argument reads behind the call as it read before. No condition. -/
import Derived.Test.YtfgfnfjeopjbgaaFrame
import Derived.Test.YtfgfnfjeopjbgaaPageN
namespace Go.Proofs.Ytfgfnfjeopjbgaa.lawPageLays
open Go.ChangeShapes Go.WideShapes Go.ChangeAt Go.RowKit Go.Deep
open Go.ChangeMaps (open_string shut_string)
set_option linter.unusedVariables false

theorem own : ownKnob Try.prog.godebug = none := by kernel_rfl
theorem bi {x : Int} (h : IntKind.i64.min ≤ x ∧ x ≤ IntKind.i64.max) : -9223372036854775808 ≤ x ∧ x ≤ 9223372036854775807 := by
  simpa [IntKind.min, IntKind.max, IntKind.signed, IntKind.bits] using h

set_option maxRecDepth 100000 in
theorem walked (H : Type) (enc : TypeId × Value → H) (W : World) (args : Array Value) (ds : List (DataW H)) (ps : List MemPlace) (base : Nat)
    (hval0 : ∀ (j : Nat) t v, Try.f13.params[j]? = some t → args[j]? = some v → Value.okWide Try.prog W .any base t v)
    (hA : DataW.TrodAll enc Try.prog W 0 (fun _ => true) true Try.f13.params.toList args.toList ds ps) :
    Calls Try.prog 13 args W fun e W' => e = .returned (.bool true) ∧ Below W.heap.size W W' := by
  have hval : ∀ (j : Nat) t v, Try.f13.params[j]? = some t → args[j]? = some v → Value.okWide Try.prog W .any base t v := hval0
  clear hval0
  rw [Try.params13] at hA hval
  obtain ⟨v0, vs0, d0, ds0, p0, q0, hargs, rfl, rfl, h0, r0⟩ := trodAll_cons hA
  obtain ⟨v1, vs1, d1, ds1, p1, q1, rfl, rfl, rfl, h1, r1⟩ := trodAll_cons r0
  obtain ⟨v2, vs2, d2, ds2, p2, q2, rfl, rfl, rfl, h2, r2⟩ := trodAll_cons r1
  obtain ⟨rfl, rfl, rfl⟩ := trodAll_nil r2
  obtain rfl : args = #[v0, v1, v2] := by cases args; simp_all
  obtain ⟨A0, n0, c0, x0, l0, rfl, i0, b0⟩ := Fr.open_pages Try.underlying53 rfl rfl (by kernel_rfl) (by kernel_rfl) (by kernel_rfl) Try.underlying51 Try.underlying3 (by kernel_rfl) (hval 0 53 v0 rfl rfl) h0
  obtain ⟨l1, hl1, rfl, hr1⟩ := Fr.flat_ints (n := 3) (it := 3) (k := .i64) (Or.inr ⟨_, _, Try.underlying61⟩) (by kernel_rfl) (by kernel_rfl) Try.underlying3 (hval 1 61 v1 rfl rfl)
  obtain ⟨x1_0, x1_1, x1_2, rfl⟩ := Fr.list_3 hl1
  have b1_0 : _ := hr1 x1_0 (by simp)
  have b1_1 : _ := hr1 x1_1 (by simp)
  have b1_2 : _ := hr1 x1_2 (by simp)
  obtain ⟨a2, rfl, rfl, rfl, w2⟩ := open_int Try.underlying3 (hval 2 3 v2 rfl rfl) h2
  obtain ⟨b2, c2⟩ := bounds_i64 w2
  exact law39_PageLays c0 x0 x1_0 x1_1 x1_2 a2 W i0 b0 (bi b1_0) (bi b1_1) (bi b1_2)

set_option maxRecDepth 100000 in
theorem holds : Rows.PageLaysSaid :=
  OpenClaim.holds_of_wide 13 Try.f13 rfl rfl rfl rfl rfl rfl rfl ⟨rfl, rfl, rfl, rfl, rfl⟩ rfl rfl rfl rfl rfl (by kernel_rfl) Try.func13 (by kernel_rfl)
    (of_decide_eq_true (by kernel_rfl)) (by unfold Func.isWrapper; rw [if_neg (of_decide_eq_false (by kernel_rfl))]; exact ⟨rfl, rfl⟩)
    (fun os started H enc _ => Fr.lifted (C := Try.checked) (f := 13) (fn := Try.f13) (s := Rows.pageLaysSpec) (enc := enc) 4 3 own started (by kernel_rfl) Try.func13
      (ChangeSpec.witness6 (enc := enc) (C := Try.checked) false ⟨#[], #[.agg #[.slice none 0 0, .int .i64 0], .agg #[.int .i64 0, .int .i64 0, .int .i64 0], .int .i64 0], []⟩ 8 (by kernel_rfl) (by kernel_rfl) (by kernel_rfl) (by kernel_rfl))
      rfl (by kernel_rfl) (fun ds h => by match ds, h with | [_, _, _], _ => exact ⟨rfl, rfl, rfl⟩)
      (by kernel_rfl) Try.underlying4 (by kernel_rfl) (by kernel_rfl) (fun W args ds ps base hv hA => walked H enc W args ds ps base hv hA))
#print axioms holds
end Go.Proofs.Ytfgfnfjeopjbgaa.lawPageLays
