/- Part 7 of the proof of GrantWhole: lemmas, each with its conditions ahead of it. -/
import Derived.Test.YthmjbfocpdiikaaPartGrantWhole4
import Derived.Test.YthmjbfocpdiikaaPartGrantWhole6
/-
  What is asked of layer 34, as it came in: tickets, two numbers, members.
-/
namespace Go.Proofs.Ythmjbfocpdiikaa
open Go.RowKit
set_option linter.unusedVariables false

theorem tick_of_rows {w : World} {a : Option Addr} {len cap : Nat} {F : Nat → Nat → Int} (h : Fr.IsRows w 5 a len cap F) : ∃ l, TickAt w a len l ∧ len ≤ cap ∧ cap ≤ 9223372036854775807 := by
  rcases h with ⟨rfl, rfl, rfl⟩ | ⟨b, off, rfl, hb, hl, hm, hc⟩
  · exact ⟨[], TickAt.nil, by omega, by omega⟩
  · have hm' : cap ≤ 9223372036854775807 := by unfold maxLen at hm; omega
    refine ⟨(List.range len).map (fun i => (F i 0, F i 1, F i 2, F i 3, F i 4)), ⟨by simp, by omega, fun m hmm => ?_, fun h0 => ⟨b, off, rfl, hb h0, fun i hi => ?_⟩⟩, hl, hm'⟩
    · obtain ⟨i, hi, rfl⟩ := List.mem_map.1 hmm
      have hi' : i < cap := by simp at hi; omega
      exact ⟨(hc i hi' 0 (by omega)).2, (hc i hi' 1 (by omega)).2, (hc i hi' 2 (by omega)).2, (hc i hi' 3 (by omega)).2, (hc i hi' 4 (by omega)).2⟩
    · have e : ((List.range len).map (fun i => ((F i 0, F i 1, F i 2, F i 3, F i 4) : SK.Tick))).getD i SK.t0 = (F i 0, F i 1, F i 2, F i 3, F i 4) := by simp [List.getD, hi]
      rw [e]
      have hi' : i < cap := by omega
      exact ⟨(hc i hi' 0 (by omega)).1, (hc i hi' 1 (by omega)).1, (hc i hi' 2 (by omega)).1, (hc i hi' 3 (by omega)).1, (hc i hi' 4 (by omega)).1⟩

set_option maxRecDepth 100000 in
theorem tickFlat {H : Type} (enc : TypeId × Value → H) (w : World) : Fr.FlatInt enc Try.prog w (fun _ => true) 51 5 := by
  have hc1 : Try.prog.cellsOf 3 = 1 := by kernel_rfl
  have hi : Fr.FlatInt enc Try.prog w (fun _ => true) 3 (Try.prog.cellsOf 3) := by rw [hc1]; exact Fr.FlatInt.int Try.underlying3
  refine Fr.FlatInt.struct (S := 5) Try.underlying51 (by kernel_rfl) (fun j hj => ?_)
  have hj' : j = 0 ∨ j = 1 ∨ j = 2 ∨ j = 3 ∨ j = 4 := by omega
  rcases hj' with rfl | rfl | rfl | rfl | rfl
  · exact ⟨0, _, rfl, Nat.zero_le _, by show 0 < 0 + Try.prog.cellsOf 3; rw [hc1]; omega, hi⟩
  · exact ⟨1, _, rfl, Nat.le_refl 1, by show 1 < 1 + Try.prog.cellsOf 3; rw [hc1]; omega, hi⟩
  · exact ⟨2, _, rfl, Nat.le_refl 2, by show 2 < 2 + Try.prog.cellsOf 3; rw [hc1]; omega, hi⟩
  · exact ⟨3, _, rfl, Nat.le_refl 3, by show 3 < 3 + Try.prog.cellsOf 3; rw [hc1]; omega, hi⟩
  · exact ⟨4, _, rfl, Nat.le_refl 4, by show 4 < 4 + Try.prog.cellsOf 3; rw [hc1]; omega, hi⟩
end Go.Proofs.Ythmjbfocpdiikaa
namespace Go.Proofs.Ythmjbfocpdiikaa.Fr
open Go.ChangeShapes Go.WideShapes Go.ChangeAt Go.RowKit Go.Deep
set_option maxRecDepth 100000 in
set_option maxHeartbeats 2000000 in
theorem open_ask {H : Type} {enc : TypeId × Value → H} {w : World} {base : Nat} {v : Value} {d : DataW H} {ps : List MemPlace}
    (hv : Value.okWide Try.prog w .any base 45 v) (h : DataW.Trod enc Try.prog w 0 (fun _ => true) true 45 v d ps) :
    ∃ TA tn tc f wt MA mn mc ts ms, v = .agg #[.slice TA tn tc, .int .i64 f, .int .i64 wt, .slice MA mn mc] ∧ TickAt w TA tn ts ∧ tn ≤ tc ∧ tc ≤ 9223372036854775807 ∧ MemAt w MA mn ms ∧
      (-9223372036854775808 ≤ f ∧ f ≤ 9223372036854775807) ∧ (-9223372036854775808 ≤ wt ∧ wt ≤ 9223372036854775807) := by
  obtain ⟨f0, f1, f2, f3, ht, e0, o0, e3, o3⟩ : ∃ f0 f1 f2 f3 : Field, Try.prog.underlying 45 = some (.struct #[f0, f1, f2, f3]) ∧ f0.type = 43 ∧ f0.offset = 0 ∧ f3.type = 23 ∧ f3.offset = 3 := ⟨_, _, _, _, Try.underlying45, rfl, rfl, rfl, rfl⟩
  have h' : ∃ cs, v = .agg cs ∧ cs.size = Try.prog.cellsOf 45 ∧ Row.okWide Try.prog w .any base 45 cs := by simpa [Value.okWide, ht] using hv
  obtain ⟨cs, rfl, hsz, ts, hts, _, hcell⟩ := h'
  rw [show Try.prog.cellTypes Try.prog.depth 45 = some [43, 3, 3, 23] by kernel_rfl] at hts
  obtain rfl := Option.some.inj hts
  rw [show Try.prog.cellsOf 45 = 4 by kernel_rfl] at hsz
  obtain ⟨x, y, z, u, rfl⟩ : ∃ x y z u, cs = #[x, y, z, u] := by
    obtain ⟨l⟩ := cs
    match l, hsz with
    | [x, y, z, u], _ => exact ⟨x, y, z, u, rfl⟩
  obtain ⟨u0, hu0, hx⟩ := hcell 0 x rfl
  obtain ⟨u1, hu1, hy⟩ := hcell 1 y rfl
  obtain ⟨u2, hu2, hz⟩ := hcell 2 z rfl
  obtain ⟨u3, hu3, hu⟩ := hcell 3 u rfl
  obtain rfl := Option.some.inj hu0
  obtain rfl := Option.some.inj hu1
  obtain rfl := Option.some.inj hu2
  obtain rfl := Option.some.inj hu3
  have hst := Try.underlying43
  have hsm := Try.underlying23
  have hit := Try.underlying3
  have hx' : Value.okWide Try.prog w .any base 43 x := by unfold Value.okWide; rw [hst]; exact hx
  have hu' : Value.okWide Try.prog w .any base 23 u := by unfold Value.okWide; rw [hsm]; exact hu
  obtain ⟨TA, tn, tc, rfl⟩ := okWide_slice hst hx'
  obtain ⟨MA, mn, mc, rfl⟩ := okWide_slice hsm hu'
  have hI : ∀ y, Cell.okWide Try.prog w .any base 3 y → ∃ cur : Int, y = .int .i64 cur ∧ -9223372036854775808 ≤ cur ∧ cur ≤ 9223372036854775807 := by
    intro y hy
    unfold Cell.okWide at hy
    rw [hit] at hy
    unfold Cell.ok at hy
    rw [hit] at hy
    cases y <;> simp_all [IntKind.has, IntKind.min, IntKind.max, IntKind.signed, IntKind.bits]
  obtain ⟨f, rfl, b1⟩ := hI y hy
  obtain ⟨wt, rfl, b2⟩ := hI z hz
  obtain ⟨fuel, hf⟩ := h
  obtain ⟨xs, m, _, _, _, hxl, hg⟩ := DataW.trod_struct ht hf
  have hxl' : xs.length = 4 := hxl
  have h3 := hg 0 f0 rfl
  have hx0 : xs[0]? = some (xs[0]'(by omega)) := List.getElem?_eq_getElem (by omega)
  have h4 := hg 3 f3 rfl
  have hx3 : xs[3]? = some (xs[3]'(by omega)) := List.getElem?_eq_getElem (by omega)
  have hc0 : Try.prog.cellsOf 43 = 1 := by kernel_rfl
  have hc3 : Try.prog.cellsOf 23 = 1 := by kernel_rfl
  rw [hx0, o0, e0, hc0] at h3
  rw [hx3, o3, e3, hc3] at h4
  obtain ⟨F, hr⟩ := open_rows (S := 5) (d := (xs[0]'(by omega)).1) (ps := (xs[0]'(by omega)).2) hst (by kernel_rfl) (by omega) (tickFlat enc w) ⟨m, by simpa [Value.cells] using h3⟩ hx'
  obtain ⟨G, hq⟩ := open_rows (S := 4) (d := (xs[3]'(by omega)).1) (ps := (xs[3]'(by omega)).2) hsm (by kernel_rfl) (by omega) (memFlat enc w) ⟨m, by simpa [Value.cells] using h4⟩ hu'
  obtain ⟨ts, ht, hle, hcc⟩ := tick_of_rows hr
  obtain ⟨ms, hm⟩ := mem_of_rows hq
  exact ⟨TA, tn, tc, f, wt, MA, mn, mc, ts, ms, rfl, ht, hle, hcc, hm, b1, b2⟩
end Go.Proofs.Ythmjbfocpdiikaa.Fr
