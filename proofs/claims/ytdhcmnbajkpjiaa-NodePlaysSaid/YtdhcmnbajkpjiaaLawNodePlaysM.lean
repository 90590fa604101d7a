/- The law NodePlays of copyholdlaw37: for every input the call returns true, and each argument reads behind the call as it read before. No condition. -/
import Derived.Test.YtdhcmnbajkpjiaaPartNodePlays1
import Derived.Test.YtdhcmnbajkpjiaaPartNodePlays8
namespace Go.Proofs.Ytdhcmnbajkpjiaa.lawNodePlays
open Go.ChangeShapes Go.WideShapes Go.ChangeAt Go.RowKit Go.Deep
open Go.ChangeMaps (open_string shut_string)
set_option linter.unusedVariables false

theorem own : ownKnob Try.prog.godebug = none := by kernel_rfl
set_option maxRecDepth 100000 in
theorem actsFlat37 {H : Type} (enc : TypeId × Value → H) (w : World) : Fr.FlatInt enc Try.prog w (fun _ => true) 61 2 := by
  have hc1 : Try.prog.cellsOf 3 = 1 := by kernel_rfl
  refine Fr.FlatInt.struct (S := 2) Try.underlying61 (by kernel_rfl) (fun j hj => ?_)
  have hj' : j = 0 ∨ j = 1 := by omega
  rcases hj' with rfl | rfl
  · exact ⟨0, _, rfl, Nat.zero_le _, by show 0 < 0 + Try.prog.cellsOf 3; rw [hc1]; omega, by show Fr.FlatInt enc Try.prog w _ 3 (Try.prog.cellsOf 3); rw [hc1]; exact Fr.FlatInt.int Try.underlying3⟩
  · exact ⟨1, _, rfl, Nat.le_refl 1, by show 1 < 1 + Try.prog.cellsOf 3; rw [hc1]; omega, by show Fr.FlatInt enc Try.prog w _ 3 (Try.prog.cellsOf 3); rw [hc1]; exact Fr.FlatInt.int Try.underlying3⟩
theorem rows_len37 {w : World} {A : Option Addr} {m c : Nat} {D : Nat → Nat → Int} (h : Fr.IsRows w 2 A m c D) : m ≤ 9223372036854775807 := by
  rcases h with ⟨_, h0, _⟩ | ⟨b, off, _, _, h1, h2, _⟩
  · omega
  · unfold maxLen at h2; omega

set_option maxRecDepth 100000 in
theorem walked (H : Type) (enc : TypeId × Value → H) (W : World) (args : Array Value) (ds : List (DataW H)) (ps : List MemPlace) (base : Nat)
    (hval0 : ∀ (j : Nat) t v, Try.f7.params[j]? = some t → args[j]? = some v → Value.okWide Try.prog W .any base t v)
    (hA : DataW.TrodAll enc Try.prog W 0 (fun _ => true) true Try.f7.params.toList args.toList ds ps) :
    Calls Try.prog 7 args W fun e W' => e = .returned (.bool true) ∧ Below W.heap.size W W' := by
  have hval : ∀ (j : Nat) t v, Try.f7.params[j]? = some t → args[j]? = some v → Value.okWide Try.prog W .any base t v := hval0
  clear hval0
  rw [Try.params7] at hA hval
  obtain ⟨v0, vs0, d0, ds0, p0, q0, hargs, rfl, rfl, h0, r0⟩ := trodAll_cons hA
  obtain ⟨v1, vs1, d1, ds1, p1, q1, rfl, rfl, rfl, h1, r1⟩ := trodAll_cons r0
  obtain ⟨v2, vs2, d2, ds2, p2, q2, rfl, rfl, rfl, h2, r2⟩ := trodAll_cons r1
  obtain ⟨rfl, rfl, rfl⟩ := trodAll_nil r2
  obtain rfl : args = #[v0, v1, v2] := by cases args; simp_all
  obtain ⟨a0, rfl, rfl, rfl, w0⟩ := open_int Try.underlying3 (hval 0 3 v0 rfl rfl) h0
  obtain ⟨b0, c0⟩ := bounds_i64 w0
  obtain ⟨s1, len1, cap1, rfl⟩ := okWide_slice Try.underlying51 (hval 1 51 v1 rfl rfl)
  obtain ⟨F1, w1⟩ := (Fr.open_rows (S := 2) Try.underlying51 (by kernel_rfl) (by omega) (actsFlat37 enc W)) h1 (hval 1 51 _ rfl rfl)
  obtain ⟨l2, hl2, rfl, hr2⟩ := Fr.flat_ints (n := 2) (it := 3) (k := .i64) (Or.inr ⟨_, _, Try.underlying32⟩) (by kernel_rfl) (by kernel_rfl) Try.underlying3 (hval 2 32 v2 rfl rfl)
  obtain ⟨x2_0, x2_1, rfl⟩ := Fr.list_2 hl2
  have b2_0 : _ := hr2 x2_0 (by simp)
  have b2_1 : _ := hr2 x2_1 (by simp)
  exact law37_NodePlays a0 s1 len1 cap1 F1 x2_0 x2_1 W w1 (rows_len37 w1) b2_0

set_option maxRecDepth 100000 in
theorem holds : Rows.NodePlaysSaid :=
  OpenClaim.holds_of_wide 7 Try.f7 rfl rfl rfl rfl rfl rfl rfl ⟨rfl, rfl, rfl, rfl, rfl⟩ rfl rfl rfl rfl rfl (by kernel_rfl) Try.func7 (by kernel_rfl)
    (of_decide_eq_true (by kernel_rfl)) (by unfold Func.isWrapper; rw [if_neg (of_decide_eq_false (by kernel_rfl))]; exact ⟨rfl, rfl⟩)
    (fun os started H enc _ => Fr.lifted (C := Try.checked) (f := 7) (fn := Try.f7) (s := Rows.nodePlaysSpec) (enc := enc) 4 3 own started (by kernel_rfl) Try.func7
      (ChangeSpec.witness6 (enc := enc) (C := Try.checked) false ⟨#[], #[.int .i64 0, .slice none 0 0, .agg #[.int .i64 0, .int .i64 0]], []⟩ 8 (by kernel_rfl) (by kernel_rfl) (by kernel_rfl) (by kernel_rfl))
      rfl (by kernel_rfl) (fun ds h => by match ds, h with | [_, _, _], _ => exact ⟨rfl, rfl, rfl⟩)
      (by kernel_rfl) Try.underlying4 (by kernel_rfl) (by kernel_rfl) (fun W args ds ps base hv hA => walked H enc W args ds ps base hv hA))
#print axioms holds
end Go.Proofs.Ytdhcmnbajkpjiaa.lawNodePlays
