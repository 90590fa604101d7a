/- The law SpansWhole of copyholdlaw08: for every input the call returns true, and each argument reads behind the call as it read before. No condition. -/
import Derived.Test.YtfgfnfjeopjbgaaFrame
import Derived.Test.YtfgfnfjeopjbgaaSpanR
import Derived.Test.YtfgfnfjeopjbgaaSpanW
namespace Go.Proofs.Ytfgfnfjeopjbgaa.lawSpansWhole
open Go.ChangeShapes Go.WideShapes Go.ChangeAt Go.RowKit Go.Deep
open Go.ChangeMaps (open_string shut_string)
set_option linter.unusedVariables false

theorem own : ownKnob Try.prog.godebug = none := by kernel_rfl
theorem bi {x : Int} (h : IntKind.i64.min ≤ x ∧ x ≤ IntKind.i64.max) : -9223372036854775808 ≤ x ∧ x ≤ 9223372036854775807 := by
  simpa [IntKind.min, IntKind.max, IntKind.signed, IntKind.bits] using h
set_option maxRecDepth 100000 in
theorem spanFlat {H : Type} (enc : TypeId × Value → H) (w : World) : Fr.FlatInt enc Try.prog w (fun _ => true) 37 2 := by
  have hc1 : Try.prog.cellsOf 3 = 1 := by kernel_rfl
  refine Fr.FlatInt.struct (S := 2) Try.underlying37 (by kernel_rfl) (fun j hj => ?_)
  have hj' : j = 0 ∨ j = 1 := by omega
  rcases hj' with rfl | rfl
  · exact ⟨0, _, rfl, Nat.zero_le _, by show 0 < 0 + Try.prog.cellsOf 3; rw [hc1]; omega, by show Fr.FlatInt enc Try.prog w _ 3 (Try.prog.cellsOf 3); rw [hc1]; exact Fr.FlatInt.int Try.underlying3⟩
  · exact ⟨1, _, rfl, Nat.le_refl 1, by show 1 < 1 + Try.prog.cellsOf 3; rw [hc1]; omega, by show Fr.FlatInt enc Try.prog w _ 3 (Try.prog.cellsOf 3); rw [hc1]; exact Fr.FlatInt.int Try.underlying3⟩

set_option maxRecDepth 100000 in
theorem walked (H : Type) (enc : TypeId × Value → H) (W : World) (args : Array Value) (ds : List (DataW H)) (ps : List MemPlace) (base : Nat)
    (hval0 : ∀ (j : Nat) t v, Try.f15.params[j]? = some t → args[j]? = some v → Value.okWide Try.prog W .any base t v)
    (hA : DataW.TrodAll enc Try.prog W 0 (fun _ => true) true Try.f15.params.toList args.toList ds ps) :
    Calls Try.prog 15 args W fun e W' => e = .returned (.bool true) ∧ Below W.heap.size W W' := by
  have hval : ∀ (j : Nat) t v, Try.f15.params[j]? = some t → args[j]? = some v → Value.okWide Try.prog W .any base t v := hval0
  clear hval0
  rw [Try.params15] at hA hval
  obtain ⟨v0, vs0, d0, ds0, p0, q0, hargs, rfl, rfl, h0, r0⟩ := trodAll_cons hA
  obtain ⟨v1, vs1, d1, ds1, p1, q1, rfl, rfl, rfl, h1, r1⟩ := trodAll_cons r0
  obtain ⟨rfl, rfl, rfl⟩ := trodAll_nil r1
  obtain rfl : args = #[v0, v1] := by cases args; simp_all
  obtain ⟨s0, len0, cap0, rfl⟩ := okWide_slice Try.underlying30 (hval 0 30 v0 rfl rfl)
  obtain ⟨F0, w0⟩ := (Fr.open_rows (S := 2) Try.underlying30 (by kernel_rfl) (by omega) (spanFlat enc W)) h0 (hval 0 30 _ rfl rfl)
  obtain ⟨l1, hl1, rfl, hr1⟩ := Fr.flat_ints (n := 2) (it := 3) (k := .i64) (Or.inr ⟨_, _, Try.underlying31⟩) (by kernel_rfl) (by kernel_rfl) Try.underlying3 (hval 1 31 v1 rfl rfl)
  obtain ⟨x1_0, x1_1, rfl⟩ := Fr.list_2 hl1
  have b1_0 : _ := hr1 x1_0 (by simp)
  have b1_1 : _ := hr1 x1_1 (by simp)
  exact (by obtain ⟨l, hl, hc⟩ := spans_of_rows w0; exact law08_SpansWhole s0 len0 cap0 l x1_0 x1_1 W hl hc (bi b1_0) (bi b1_1))

set_option maxRecDepth 100000 in
theorem holds : Rows.SpansWholeSaid :=
  OpenClaim.holds_of_wide 15 Try.f15 rfl rfl rfl rfl rfl rfl rfl ⟨rfl, rfl, rfl, rfl, rfl⟩ rfl rfl rfl rfl rfl (by kernel_rfl) Try.func15 (by kernel_rfl)
    (of_decide_eq_true (by kernel_rfl)) (by unfold Func.isWrapper; rw [if_neg (of_decide_eq_false (by kernel_rfl))]; exact ⟨rfl, rfl⟩)
    (fun os started H enc _ => Fr.lifted (C := Try.checked) (f := 15) (fn := Try.f15) (s := Rows.spansWholeSpec) (enc := enc) 4 2 own started (by kernel_rfl) Try.func15
      (ChangeSpec.witness6 (enc := enc) (C := Try.checked) false ⟨#[], #[.slice none 0 0, .agg #[.int .i64 0, .int .i64 0]], []⟩ 8 (by kernel_rfl) (by kernel_rfl) (by kernel_rfl) (by kernel_rfl))
      rfl (by kernel_rfl) (fun ds h => by match ds, h with | [_, _], _ => exact ⟨rfl, rfl, rfl⟩)
      (by kernel_rfl) Try.underlying4 (by kernel_rfl) (by kernel_rfl) (fun W args ds ps base hv hA => walked H enc W args ds ps base hv hA))
#print axioms holds
end Go.Proofs.Ytfgfnfjeopjbgaa.lawSpansWhole
