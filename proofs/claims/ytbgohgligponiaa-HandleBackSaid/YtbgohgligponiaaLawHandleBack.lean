/- The law HandleBack of copyholdlaw07: for every input the call returns true, and each argument reads behind the call as it read before. No condition. -/
import Derived.Test.YtbgohgligponiaaFrame
import Derived.Test.YtbgohgligponiaaHandleF
namespace Go.Proofs.Ytbgohgligponiaa.lawHandleBack
open Go.ChangeShapes Go.WideShapes Go.ChangeAt Go.RowKit Go.Deep
open Go.ChangeMaps (open_string shut_string)
set_option linter.unusedVariables false

theorem own : ownKnob Try.prog.godebug = none := by kernel_rfl

theorem wk (k p g o k' p' g' o' h : Int) (w : World) (hl : -9223372036854775808 ≤ h) (hm : h ≤ 9223372036854775807) :
    Calls Try.prog 4 #[.agg #[.int .i64 k, .int .i64 p, .int .i64 g, .int .i64 o], .agg #[.int .i64 k', .int .i64 p', .int .i64 g', .int .i64 o'], .int .i64 h] w fun e w' => e = .returned (.bool true) ∧ Below w.heap.size w w' := by
  by_cases hE : (PH.put k p g o).2 = 0
  · by_cases hF : (PH.put k' p' g' o').2 = 0
    · exact law07_HandleBack_yy k p g o k' p' g' o' h w hl hm hE hF
    · exact law07_HandleBack_yn k p g o k' p' g' o' h w hl hm hE hF
  · exact law07_HandleBack_n k p g o k' p' g' o' h w hl hm hE

set_option maxRecDepth 100000 in
theorem walked (H : Type) (enc : TypeId × Value → H) (W : World) (args : Array Value) (ds : List (DataW H)) (ps : List MemPlace) (base : Nat)
    (hval0 : ∀ (j : Nat) t v, Try.f4.params[j]? = some t → args[j]? = some v → Value.okWide Try.prog W .any base t v)
    (hA : DataW.TrodAll enc Try.prog W 0 (fun _ => true) true Try.f4.params.toList args.toList ds ps) :
    Calls Try.prog 4 args W fun e W' => e = .returned (.bool true) ∧ Below W.heap.size W W' := by
  have hval : ∀ (j : Nat) t v, Try.f4.params[j]? = some t → args[j]? = some v → Value.okWide Try.prog W .any base t v := hval0
  clear hval0
  rw [Try.params4] at hA hval
  obtain ⟨v0, vs0, d0, ds0, p0, q0, hargs, rfl, rfl, h0, r0⟩ := trodAll_cons hA
  obtain ⟨v1, vs1, d1, ds1, p1, q1, rfl, rfl, rfl, h1, r1⟩ := trodAll_cons r0
  obtain ⟨v2, vs2, d2, ds2, p2, q2, rfl, rfl, rfl, h2, r2⟩ := trodAll_cons r1
  obtain ⟨rfl, rfl, rfl⟩ := trodAll_nil r2
  obtain rfl : args = #[v0, v1, v2] := by cases args; simp_all
  obtain ⟨l0, hl0, rfl, hr0⟩ := Fr.flat_ints (n := 4) (it := 3) (k := .i64) (Or.inr ⟨_, _, Try.underlying22⟩) (by kernel_rfl) (by kernel_rfl) Try.underlying3 (hval 0 22 v0 rfl rfl)
  obtain ⟨x0_0, x0_1, x0_2, x0_3, rfl⟩ := Fr.list_4 hl0
  have b0_0 : _ := hr0 x0_0 (by simp)
  have b0_1 : _ := hr0 x0_1 (by simp)
  have b0_2 : _ := hr0 x0_2 (by simp)
  have b0_3 : _ := hr0 x0_3 (by simp)
  obtain ⟨l1, hl1, rfl, hr1⟩ := Fr.flat_ints (n := 4) (it := 3) (k := .i64) (Or.inr ⟨_, _, Try.underlying22⟩) (by kernel_rfl) (by kernel_rfl) Try.underlying3 (hval 1 22 v1 rfl rfl)
  obtain ⟨x1_0, x1_1, x1_2, x1_3, rfl⟩ := Fr.list_4 hl1
  have b1_0 : _ := hr1 x1_0 (by simp)
  have b1_1 : _ := hr1 x1_1 (by simp)
  have b1_2 : _ := hr1 x1_2 (by simp)
  have b1_3 : _ := hr1 x1_3 (by simp)
  obtain ⟨a2, rfl, rfl, rfl, w2⟩ := open_int Try.underlying3 (hval 2 3 v2 rfl rfl) h2
  obtain ⟨b2, c2⟩ := bounds_i64 w2
  exact wk x0_0 x0_1 x0_2 x0_3 x1_0 x1_1 x1_2 x1_3 a2 W b2 c2

theorem holds : Rows.HandleBackSaid :=
  OpenClaim.holds_of_wide 4 Try.f4 rfl rfl rfl rfl rfl rfl rfl ⟨rfl, rfl, rfl, rfl, rfl⟩ rfl rfl rfl rfl rfl (by kernel_rfl) Try.func4 (by kernel_rfl)
    (of_decide_eq_true (by kernel_rfl)) (by unfold Func.isWrapper; rw [if_neg (of_decide_eq_false (by kernel_rfl))]; exact ⟨rfl, rfl⟩)
    (fun os started H enc _ => Fr.lifted (C := Try.checked) (f := 4) (fn := Try.f4) (s := Rows.handleBackSpec) (enc := enc) 4 3 own started (by kernel_rfl) Try.func4
      (ChangeSpec.witness6 (enc := enc) (C := Try.checked) false ⟨#[], #[.agg #[.int .i64 0, .int .i64 0, .int .i64 0, .int .i64 0], .agg #[.int .i64 0, .int .i64 0, .int .i64 0, .int .i64 0], .int .i64 0], []⟩ 8 (by kernel_rfl) (by kernel_rfl) (by kernel_rfl) (by kernel_rfl))
      rfl (by kernel_rfl) (fun ds h => by match ds, h with | [_, _, _], _ => exact ⟨rfl, rfl, rfl⟩)
      (by kernel_rfl) Try.underlying4 (by kernel_rfl) (by kernel_rfl) (fun W args ds ps base hv hA => walked H enc W args ds ps base hv hA))
#print axioms holds
end Go.Proofs.Ytbgohgligponiaa.lawHandleBack
