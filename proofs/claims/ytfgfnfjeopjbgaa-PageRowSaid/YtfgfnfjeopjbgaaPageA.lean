/-
  Layer 39 (page): a set of numbers in a map of the call's own; is, Right.
-/
import Derived.Test.YtfgfnfjeopjbgaaPlainPage
import Derived.Test.YtfgfnfjeopjbgaaInts
import Derived.Maps.Own
import Derived.Maps.Views
import Derived.BigQuiet
import Derived.Deep.QuietTactic
namespace Go.Proofs.Ytfgfnfjeopjbgaa
open Go.RowKit
open Go.Maps
set_option linter.unusedVariables false
set_option linter.unusedSimpArgs false
attribute [local go_sem] drewN_alloc drewN_setCell

theorem page_keyed : Keyed Try.prog 3 := int_keyed Try.underlying3
theorem page_zero (w : World) : (zeroValue 4).run Try.prog w = .ok (.bool false) w := by kernel_rfl

/-- Block b is a map that says yes of the first k of xs, and no of all other numbers. -/
def SeenAt (w : World) (b : Nat) (xs : List Int) (k : Nat) : Prop :=
  ∃ D : DataW Unit, w.ownsMap Try.prog 3 (plainElem Try.prog 4) b k D ∧ IsMap D ∧ ∀ x : Int, D.atKey (.int .i64 x) (.lit (.bool false)) = .lit (.bool (decide (x ∈ xs.take k)))

theorem SeenAt.made (w : World) (xs : List Int) : SeenAt (w.alloc (.map #[] 0)) w.heap.size xs 0 :=
  ⟨.map [], World.ownsMap_made _ _ _ _, ⟨[], rfl⟩, fun x => by simp [DataW.atKey]⟩
theorem SeenAt.keep {w w' : World} {b k : Nat} {xs : List Int} (h : SeenAt w b xs k) (hb : w.grownBy w' none) : SeenAt w' b xs k := by
  obtain ⟨D, h1, h2, h3⟩ := h
  exact ⟨D, h1.kept hb (by simp), h2, h3⟩
theorem plainElem_bool_inv {P : Program} {e : TypeId} (he : P.underlying e = some .bool) {v : Value} {z : DataW Unit × List MemPlace} (h : plainElem P e v = some z) : ∃ x, v = .bool x ∧ z = (.lit (.bool x), []) := by
  unfold plainElem at h
  rw [he] at h
  cases v <;> simp at h
  exact ⟨_, rfl, h.symm⟩
theorem SeenAt.look {w : World} {b k : Nat} {xs : List Int} (h : SeenAt w b xs k) (x : Int) (hx : -9223372036854775808 ≤ x ∧ x ≤ 9223372036854775807) :
    (Instr.lookup 92 (.map (some b)) (.int .i64 x) false).run Try.prog w = .ok (.bool (decide (x ∈ xs.take k))) w := by
  obtain ⟨D, h1, h2, h3⟩ := h
  obtain ⟨v, ps, hrun, hv⟩ := h1.lookup page_keyed Try.underlying92 (page_zero w) (plainElem_bool Try.underlying4 false) (keyOf_int_mk (P := Try.prog) (k := 3) Try.underlying3 (WalkArith.wf_i64 hx) : keyOf Try.prog 3 (.int .i64 x) = some (.int .i64 x))
  rw [h3] at hv
  obtain ⟨y, rfl, hy⟩ := plainElem_bool_inv Try.underlying4 hv
  simp at hy
  rw [hrun, hy.1]
theorem SeenAt.store {w : World} {b k : Nat} {xs : List Int} (h : SeenAt w b xs k) (hk : k < xs.length) (hm : k < maxLen) (hx : -9223372036854775808 ≤ xs.getD k 0 ∧ xs.getD k 0 ≤ 9223372036854775807) :
    ∃ w', (Instr.mapUpdate 92 (.map (some b)) (.int .i64 (xs.getD k 0)) (.bool true)).run Try.prog w = .ok () w' ∧ SeenAt w' b xs (k + 1) ∧ w.grownBy w' (some b) := by
  obtain ⟨D, h1, h2, h3⟩ := h
  obtain ⟨w', hrun, ho, hg⟩ := h1.update page_keyed Try.underlying92 hm (keyOf_int_mk (P := Try.prog) (k := 3) Try.underlying3 (WalkArith.wf_i64 hx) : keyOf Try.prog 3 (.int .i64 (xs.getD k 0)) = some (.int .i64 (xs.getD k 0))) (plainElem_bool Try.underlying4 true)
  refine ⟨w', hrun, ⟨_, ho, ?_, ?_⟩, hg⟩
  · obtain ⟨es, rfl⟩ := h2
    exact ⟨_, rfl⟩
  · intro x
    rw [PG.take_succ_getD hk]
    by_cases e : x = xs.getD k 0
    · subst e
      rw [atKey_put_same h2 (by exact trivial)]
      simp
    · rw [atKey_put_other (by simpa using e), h3]
      have e' : decide (x ∈ xs.take k ++ [xs.getD k 0]) = decide (x ∈ xs.take k) := by
        rw [decide_eq_decide, List.mem_append, List.mem_singleton]
        exact ⟨fun h => h.resolve_right e, Or.inl⟩
      rw [e']

theorem page_is (i : Int) (w : World) :
    Calls Try.prog 86 #[.int .i64 i] w fun e w' => e = .returned (.bool (PG.fit i)) ∧ w = w' := by
  by_cases h : 0 ≤ i
  · go_enter Try.func86, Try.ntmps86
    go_wp2_with fail
    go_ret
    exact ⟨ret_bool (by simp [PG.fit, h]), rfl⟩
  · have h' : i < 0 := by omega
    go_enter Try.func86, Try.ntmps86
    go_wp2_with fail
    go_ret
    exact ⟨ret_bool (by simp [PG.fit]; omega), rfl⟩
theorem page_makeMap (n : Nat) (w : World) : (Instr.makeMap 92 (some (.int .i64 (n : Int)))).run Try.prog w = .ok (.map (some w.heap.size)) (w.alloc (.map #[] 0)) := by
  simp [Instr.makeMap, run_underlying Try.underlying92, asInt, asIntOf, Result.andThen]

/-- What holds at the head of Right's loop: S is the map's block. -/
def PRightRel (w : World) (xs : List Int) (S n : Nat) (i : Value) (wr : World) : Prop :=
  ∃ k : Nat, k ≤ n ∧ i = .int .i64 k ∧ PG.Good xs k ∧ SeenAt wr S xs k ∧ Below w.heap.size w wr ∧ S < wr.heap.size

set_option maxHeartbeats 4000000 in
theorem page_Right_some (b off n c : Nat) (cur : Int) (xs : List Int) (w : World) (hn : n ≤ 100000) (hx : xs.length = n) (hn0 : 0 < n) (hb : b < w.heap.size)
    (hc : ∀ i, i < n → w.cell? ⟨b, off + i, none⟩ = some (.int .i64 (xs.getD i 0))) (h0 : 0 ≤ cur) :
    Calls Try.prog 49 #[.agg #[.slice (some ⟨b, off, none⟩) n c, .int .i64 cur]] w fun e w' => e = .returned (.bool (PG.right xs cur)) ∧ Below w.heap.size w w' := by
  have HC := Lib.hid hc
  have HX := Lib.hid hx
  have HM := @page_makeMap
  have j0 : (n : Int) ≠ 0 := by omega
  clear hc hx
  go_enter Try.func49, Try.ntmps49
  go_wp2
  go_loopw [27] (fun i wr => PRightRel w xs (w.heap.size + 1) n i wr) (fun i _ => n - (intOf i).toNat)
  case atStart =>
    have h := SeenAt.made (w.alloc (.cells #[.slice (some ⟨b, off, none⟩) n c, .int .i64 cur] 53)) xs
    have e : (w.alloc (.cells #[.slice (some ⟨b, off, none⟩) n c, .int .i64 cur] 53)).heap.size = w.heap.size + 1 := by simp
    rw [e] at h
    exact ⟨0, Nat.zero_le _, rfl, PG.good_zero _, h, (by repeat (first | exact Below.refl _ _ | assumption | refine bel_drew ?_ | refine bel_drewN ?_ _ | refine bel_alloc ?_ _ | refine bel_set ?_ (by first | (dsimp only; omega) | (simp; done) | (simp; omega)) _ | refine bel_trans ?_ (by assumption))), by simp⟩
  case round =>
    obtain ⟨k, hk, rfl, hgood, hseen, hbel, hS⟩ := hrel
    have HG := Lib.hid hgood
    have HS := Lib.hid hseen
    clear hgood hseen
    by_cases hlt : (k : Int) < n
    · have x0 := (hbel.cell (p := ⟨b, off + k, none⟩) hb).trans (HC.out k (by omega))
      obtain ⟨x, hx⟩ : ∃ x, xs.getD k 0 = x := ⟨_, rfl⟩
      rw [hx] at x0
      have HX1 := Lib.hid hx
      clear hx
      have K1 := page_is x wr
      have j1 : (0 : Int) ≤ (k : Int) := by omega
      rcases hf : PG.fit x with _ | _
      · rw [hf] at K1
        have HR := Lib.hid (PG.not_good (xs := xs) (k := k) (by rw [HX.out]; omega) (.inl (by rw [HX1.out]; exact hf)) cur)
        replace K1 := Lib.hid K1
        clear hf
        go_wp2_with fail
        refine K1.out.mono ?_
        rintro e w5 ⟨rfl, rfl⟩
        go_wp2_with fail
        go_ret
        exact ⟨ret_bool HR.out.symm, (by repeat (first | exact Below.refl _ _ | assumption | refine bel_drew ?_ | refine bel_drewN ?_ _ | refine bel_alloc ?_ _ | refine bel_set ?_ (by first | (dsimp only; omega) | (simp; done) | (simp; omega)) _ | refine bel_trans ?_ (by assumption)))⟩
      · rw [hf] at K1
        replace K1 := Lib.hid K1
        have hfb := (PG.fit_iff x).1 hf
        have L1 := HS.out.look x (by omega)
        rcases hm : decide (x ∈ xs.take k) with _ | _
        · rw [hm] at L1
          obtain ⟨w2, U1, hS2, hg2⟩ := HS.out.store (by rw [HX.out]; omega) (by unfold maxLen; omega) (by rw [HX1.out]; omega)
          rw [HX1.out] at U1
          have hb2 := hbel.grown hg2 hbel.size (fun q hq => by cases hq; omega)
          have hsz2 : w.heap.size + 1 < w2.heap.size := Nat.lt_of_lt_of_le hS hg2.size
          have HG2 := Lib.hid (PG.good_succ HG.out (by rw [HX1.out]; exact hf) (by rw [HX1.out]; simpa using hm))
          replace hS2 := Lib.hid hS2
          clear hf hm hg2 HS HG hfb
          go_wp2_with fail
          refine K1.out.mono ?_
          rintro e w5 ⟨rfl, rfl⟩
          go_wp2_with fail
          go_roundw
          case rel => exact ⟨k + 1, by omega, by go_num, HG2.out, hS2.out, hb2, hsz2⟩
          case measure => simp [intOf]; omega
        · rw [hm] at L1
          have HR := Lib.hid (PG.not_good (xs := xs) (k := k) (by rw [HX.out]; omega) (.inr (by rw [HX1.out]; simpa using hm)) cur)
          clear hf hm hfb
          go_wp2_with fail
          refine K1.out.mono ?_
          rintro e w5 ⟨rfl, rfl⟩
          go_wp2_with fail
          go_ret
          exact ⟨ret_bool HR.out.symm, (by repeat (first | exact Below.refl _ _ | assumption | refine bel_drew ?_ | refine bel_drewN ?_ _ | refine bel_alloc ?_ _ | refine bel_set ?_ (by first | (dsimp only; omega) | (simp; done) | (simp; omega)) _ | refine bel_trans ?_ (by assumption)))⟩
    · have hkn : k = n := by omega
      have hr : PG.right xs cur = true := by
        rw [PG.right_iff]
        refine ⟨h0, Or.inr ?_, ?_⟩
        · intro e; have := HX.out; rw [e] at this; simp at this; omega
        · rw [HX.out, ← hkn]; exact HG.out
      have HE := Lib.hid hr
      clear hkn hr
      go_wp2_with fail
      go_ret
      exact ⟨ret_bool HE.out.symm, (by repeat (first | exact Below.refl _ _ | assumption | refine bel_drew ?_ | refine bel_drewN ?_ _ | refine bel_alloc ?_ _ | refine bel_set ?_ (by first | (dsimp only; omega) | (simp; done) | (simp; omega)) _ | refine bel_trans ?_ (by assumption)))⟩
end Go.Proofs.Ytfgfnfjeopjbgaa
