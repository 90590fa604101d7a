/-
  Layer 39 (page): PageLays at any input, and the opening of the pages that came in.
-/
import Derived.Test.YtfgfnfjeopjbgaaPageM
import Derived.Test.YtfgfnfjeopjbgaaFrame2
namespace Go.Proofs.Ytfgfnfjeopjbgaa
open Go.RowKit
set_option linter.unusedVariables false
set_option linter.unusedSimpArgs false

theorem law39_PageLays {A : Option Addr} {n : Nat} {xs : List Int} (c : Nat) (cur n0 n1 n2 i : Int) (w : World) (h : IntsAt w A n xs)
    (bc : -9223372036854775808 ≤ cur ∧ cur ≤ 9223372036854775807) (b0 : -9223372036854775808 ≤ n0 ∧ n0 ≤ 9223372036854775807) (b1 : -9223372036854775808 ≤ n1 ∧ n1 ≤ 9223372036854775807) (b2 : -9223372036854775808 ≤ n2 ∧ n2 ≤ 9223372036854775807) :
    Calls Try.prog 13 #[.agg #[.slice A n c, .int .i64 cur], .agg #[.int .i64 n0, .int .i64 n1, .int .i64 n2], .int .i64 i] w fun e w' => e = .returned (.bool true) ∧ Below w.heap.size w w' := by
  rcases Nat.lt_or_ge 40 n with hn | hn
  · exact law39_PageLays_big A n c cur n0 n1 n2 i w hn
  · exact law39_PageLays_some c cur n0 n1 n2 i w h hn bc b0 b1 b2
end Go.Proofs.Ytfgfnfjeopjbgaa
namespace Go.Proofs.Ytfgfnfjeopjbgaa.Fr
open Go.ChangeShapes Go.WideShapes Go.ChangeAt Go.RowKit Go.Deep

theorem ints_of_rows {w : World} {a : Option Addr} {len cap : Nat} {F : Nat → Nat → Int} (h : IsRows w 1 a len cap F) : ∃ xs, IntsAt w a len xs := by
  rcases h with ⟨rfl, rfl, rfl⟩ | ⟨b, off, rfl, hb, hl, hm, hc⟩
  · exact ⟨[], IntsAt.nil⟩
  · refine ⟨(List.range len).map (fun i => F i 0), by simp, by unfold maxLen at hm; omega, fun h0 => ⟨b, off, rfl, hb h0, fun i hi => ?_⟩⟩
    have := (hc i (by omega) 0 (by omega)).1
    rw [show off + i * 1 + 0 = off + i by omega] at this
    rw [this]
    simp [List.getD, hi]

section
variable {H : Type} {enc : TypeId × Value → H} {P : Program} {w : World}
/-- A struct of a slice of ints and an int. -/
theorem open_pages {t st it base : Nat} {v : Value} {d : DataW H} {ps : List MemPlace} {f0 f1 : Field} (ht : P.underlying t = some (.struct #[f0, f1])) (hs : f0.type = st)
    (ho : f0.offset = 0) (hcs : P.cellsOf st = 1) (hct : P.cellTypes P.depth t = some [st, it]) (hc2 : P.cellsOf t = 2) (hst : P.underlying st = some (.slice it)) (hit : P.underlying it = some (.int .i64)) (hci : P.cellsOf it = 1)
    (hv : Value.okWide P w .any base t v) (h : DataW.Trod enc P w 0 (fun _ => true) true t v d ps) :
    ∃ A n c cur xs, v = .agg #[.slice A n c, .int .i64 cur] ∧ IntsAt w A n xs ∧ -9223372036854775808 ≤ cur ∧ cur ≤ 9223372036854775807 := by
  have h' : ∃ cs, v = .agg cs ∧ cs.size = P.cellsOf t ∧ Row.okWide P w .any base t cs := by simpa [Value.okWide, ht] using hv
  obtain ⟨cs, rfl, hsz, ts, hts, _, hcell⟩ := h'
  rw [hct] at hts
  obtain rfl : [st, it] = ts := Option.some.inj hts
  rw [hc2] at hsz
  obtain ⟨x, y, rfl⟩ : ∃ x y, cs = #[x, y] := by
    obtain ⟨l⟩ := cs
    match l, hsz with
    | [x, y], _ => exact ⟨x, y, rfl⟩
  obtain ⟨u0, hu0, hx⟩ := hcell 0 x rfl
  obtain ⟨u1, hu1, hy⟩ := hcell 1 y rfl
  obtain rfl : st = u0 := Option.some.inj hu0
  obtain rfl : it = u1 := Option.some.inj hu1
  have hx' : Value.okWide P w .any base st x := by unfold Value.okWide; rw [hst]; exact hx
  obtain ⟨A, n, c, rfl⟩ := okWide_slice hst hx'
  have hy' : ∃ cur : Int, y = .int .i64 cur ∧ -9223372036854775808 ≤ cur ∧ cur ≤ 9223372036854775807 := by
    unfold Cell.okWide at hy
    rw [hit] at hy
    unfold Cell.ok at hy
    rw [hit] at hy
    cases y <;> simp_all [IntKind.has, IntKind.min, IntKind.max, IntKind.signed, IntKind.bits]
  obtain ⟨cur, rfl, b1, b2⟩ := hy'
  obtain ⟨fuel, hf⟩ := h
  obtain ⟨xs, m, _, _, _, hxl, hg⟩ := DataW.trod_struct ht hf
  have h3 := hg 0 f0 rfl
  have hx0 : xs[0]? = some (xs[0]'(by simp at hxl; omega)) := List.getElem?_eq_getElem (by simp at hxl; omega)
  rw [hx0, ho, hs, hcs] at h3
  obtain ⟨F, hr⟩ := open_rows (S := 1) (d := (xs[0]'(by simp at hxl; omega)).1) (ps := (xs[0]'(by simp at hxl; omega)).2) hst hci (by omega) (FlatInt.int hit) ⟨m, by simpa [Value.cells] using h3⟩ hx'
  obtain ⟨l, hl⟩ := ints_of_rows hr
  exact ⟨A, n, c, cur, l, rfl, hl, b1, b2⟩
end
end Go.Proofs.Ytfgfnfjeopjbgaa.Fr
