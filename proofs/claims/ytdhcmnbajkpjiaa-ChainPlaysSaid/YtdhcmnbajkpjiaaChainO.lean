/-
  ChainPlays, whole.
-/
import Derived.Test.YtdhcmnbajkpjiaaChainN
namespace Go.Proofs.Ytdhcmnbajkpjiaa
open Go.RowKit
set_option linter.unusedVariables false
attribute [local go_sem] drewN_alloc drewN_setCell

set_option maxRecDepth 100000 in
theorem law05_ChainPlays_w1 (A : Option Addr) (m c : Nat) (a b x : Int) (w : World) (hmm : m ≤ 9223372036854775807) (h : (60 : Int) < (m : Int)) :
    Calls Try.prog 4 #[.agg #[.int .i64 a, .int .i64 b], .slice A m c, .int .i64 x] w fun e w' => e = .returned (.bool true) ∧ Below w.heap.size w w' := by
  go_enter Try.func4, Try.ntmps4
  go_wp2_with fail
  refine (law05_works _).mono ?_
  rintro e w1 ⟨rfl, h1⟩
  have hb := Lib.hid (bel_trans (bel_alloc (Below.refl w.heap.size w) (.cells #[.int .i64 a, .int .i64 b] 32)) h1)
  clear h1
  go_wp2_with fail
  go_ret
  exact ⟨rfl, hb.out⟩

set_option maxRecDepth 100000 in
theorem law05_ChainPlays_w2 (A : Option Addr) (m c : Nat) (a b x : Int) (w : World) (hmm : m ≤ 9223372036854775807) (h : (m : Int) ≤ 60) (h1 : 40 < a) (h2 : a ≤ 1048576) :
    Calls Try.prog 4 #[.agg #[.int .i64 a, .int .i64 b], .slice A m c, .int .i64 x] w fun e w' => e = .returned (.bool true) ∧ Below w.heap.size w w' := by
  go_enter Try.func4, Try.ntmps4
  go_wp2_with fail
  refine (law05_works _).mono ?_
  rintro e w1 ⟨rfl, h1⟩
  have hb := Lib.hid (bel_trans (bel_alloc (Below.refl w.heap.size w) (.cells #[.int .i64 a, .int .i64 b] 32)) h1)
  clear h1
  go_wp2_with fail
  go_ret
  exact ⟨rfl, hb.out⟩

set_option maxRecDepth 100000 in
theorem law05_ChainPlays_w3 (A : Option Addr) (m c : Nat) (a b x : Int) (w : World) (hmm : m ≤ 9223372036854775807) (h : (m : Int) ≤ 60) (h0 : a ≤ 40) (h1 : 200 < b) (h2 : b ≤ 1048576) :
    Calls Try.prog 4 #[.agg #[.int .i64 a, .int .i64 b], .slice A m c, .int .i64 x] w fun e w' => e = .returned (.bool true) ∧ Below w.heap.size w w' := by
  go_enter Try.func4, Try.ntmps4
  go_wp2_with fail
  refine (law05_works _).mono ?_
  rintro e w1 ⟨rfl, h1⟩
  have hb := Lib.hid (bel_trans (bel_alloc (Below.refl w.heap.size w) (.cells #[.int .i64 a, .int .i64 b] 32)) h1)
  clear h1
  go_wp2_with fail
  go_ret
  exact ⟨rfl, hb.out⟩

set_option maxRecDepth 100000 in
theorem law05_ChainPlays_w4 (A : Option Addr) (m c : Nat) (a b x : Int) (w : World) (hmm : m ≤ 9223372036854775807) (h : (m : Int) ≤ 60) (h0 : 40 < a) (h00 : 1048576 < a) (h1 : 200 < b) (h2 : b ≤ 1048576) :
    Calls Try.prog 4 #[.agg #[.int .i64 a, .int .i64 b], .slice A m c, .int .i64 x] w fun e w' => e = .returned (.bool true) ∧ Below w.heap.size w w' := by
  go_enter Try.func4, Try.ntmps4
  go_wp2_with fail
  refine (law05_works _).mono ?_
  rintro e w1 ⟨rfl, h1⟩
  have hb := Lib.hid (bel_trans (bel_alloc (Below.refl w.heap.size w) (.cells #[.int .i64 a, .int .i64 b] 32)) h1)
  clear h1
  go_wp2_with fail
  go_ret
  exact ⟨rfl, hb.out⟩

set_option maxRecDepth 100000 in
theorem law05_ChainPlays_n_anbn (A : Option Addr) (m c : Nat) (a b x : Int) (w : World) (h : (m : Int) ≤ 60) (a0 : a < 0) (a1 : a ≤ 40) (b0 : b < 0) (b1 : b ≤ 200) :
    Calls Try.prog 4 #[.agg #[.int .i64 a, .int .i64 b], .slice A m c, .int .i64 x] w fun e w' => e = .returned (.bool true) ∧ Below w.heap.size w w' := by
  have c1 := fun W => chain_New_no a b W (by omega)
  replace c1 := Lib.hid c1
  go_enter Try.func4, Try.ntmps4
  go_wp2_with fail
  refine (c1.out _).mono ?_
  rintro e w1 ⟨rfl, rfl⟩
  go_wp2_with fail
  refine (law05_works _).mono ?_
  rintro e w1 ⟨rfl, h1⟩
  have hb := Lib.hid (bel_trans (bel_alloc (Below.refl w.heap.size w) (.cells #[.int .i64 a, .int .i64 b] 32)) h1)
  clear h1
  go_wp2_with fail
  go_ret
  exact ⟨rfl, hb.out⟩

set_option maxRecDepth 100000 in
theorem law05_ChainPlays_n_anbb (A : Option Addr) (m c : Nat) (a b x : Int) (w : World) (h : (m : Int) ≤ 60) (a0 : a < 0) (a1 : a ≤ 40) (b0 : 1048576 < b) (b1 : 200 < b) (b2 : 0 ≤ b) :
    Calls Try.prog 4 #[.agg #[.int .i64 a, .int .i64 b], .slice A m c, .int .i64 x] w fun e w' => e = .returned (.bool true) ∧ Below w.heap.size w w' := by
  have c1 := fun W => chain_New_no a b W (by omega)
  replace c1 := Lib.hid c1
  go_enter Try.func4, Try.ntmps4
  go_wp2_with fail
  refine (c1.out _).mono ?_
  rintro e w1 ⟨rfl, rfl⟩
  go_wp2_with fail
  refine (law05_works _).mono ?_
  rintro e w1 ⟨rfl, h1⟩
  have hb := Lib.hid (bel_trans (bel_alloc (Below.refl w.heap.size w) (.cells #[.int .i64 a, .int .i64 b] 32)) h1)
  clear h1
  go_wp2_with fail
  go_ret
  exact ⟨rfl, hb.out⟩

set_option maxRecDepth 100000 in
theorem law05_ChainPlays_n_anbi (A : Option Addr) (m c : Nat) (a b x : Int) (w : World) (h : (m : Int) ≤ 60) (a0 : a < 0) (a1 : a ≤ 40) (b0 : 0 ≤ b) (b1 : b ≤ 200) (b2 : b ≤ 1048576) :
    Calls Try.prog 4 #[.agg #[.int .i64 a, .int .i64 b], .slice A m c, .int .i64 x] w fun e w' => e = .returned (.bool true) ∧ Below w.heap.size w w' := by
  have c1 := fun W => chain_New_no a b W (by omega)
  replace c1 := Lib.hid c1
  go_enter Try.func4, Try.ntmps4
  go_wp2_with fail
  refine (c1.out _).mono ?_
  rintro e w1 ⟨rfl, rfl⟩
  go_wp2_with fail
  refine (law05_works _).mono ?_
  rintro e w1 ⟨rfl, h1⟩
  have hb := Lib.hid (bel_trans (bel_alloc (Below.refl w.heap.size w) (.cells #[.int .i64 a, .int .i64 b] 32)) h1)
  clear h1
  go_wp2_with fail
  go_ret
  exact ⟨rfl, hb.out⟩

set_option maxRecDepth 100000 in
theorem law05_ChainPlays_n_abbn (A : Option Addr) (m c : Nat) (a b x : Int) (w : World) (h : (m : Int) ≤ 60) (a0 : 1048576 < a) (a1 : 40 < a) (a2 : 0 ≤ a) (b0 : b < 0) (b1 : b ≤ 200) :
    Calls Try.prog 4 #[.agg #[.int .i64 a, .int .i64 b], .slice A m c, .int .i64 x] w fun e w' => e = .returned (.bool true) ∧ Below w.heap.size w w' := by
  have c1 := fun W => chain_New_no a b W (by omega)
  replace c1 := Lib.hid c1
  go_enter Try.func4, Try.ntmps4
  go_wp2_with fail
  refine (c1.out _).mono ?_
  rintro e w1 ⟨rfl, rfl⟩
  go_wp2_with fail
  refine (law05_works _).mono ?_
  rintro e w1 ⟨rfl, h1⟩
  have hb := Lib.hid (bel_trans (bel_alloc (Below.refl w.heap.size w) (.cells #[.int .i64 a, .int .i64 b] 32)) h1)
  clear h1
  go_wp2_with fail
  go_ret
  exact ⟨rfl, hb.out⟩

set_option maxRecDepth 100000 in
theorem law05_ChainPlays_n_abbb (A : Option Addr) (m c : Nat) (a b x : Int) (w : World) (h : (m : Int) ≤ 60) (a0 : 1048576 < a) (a1 : 40 < a) (a2 : 0 ≤ a) (b0 : 1048576 < b) (b1 : 200 < b) (b2 : 0 ≤ b) :
    Calls Try.prog 4 #[.agg #[.int .i64 a, .int .i64 b], .slice A m c, .int .i64 x] w fun e w' => e = .returned (.bool true) ∧ Below w.heap.size w w' := by
  have c1 := fun W => chain_New_no a b W (by omega)
  replace c1 := Lib.hid c1
  go_enter Try.func4, Try.ntmps4
  go_wp2_with fail
  refine (c1.out _).mono ?_
  rintro e w1 ⟨rfl, rfl⟩
  go_wp2_with fail
  refine (law05_works _).mono ?_
  rintro e w1 ⟨rfl, h1⟩
  have hb := Lib.hid (bel_trans (bel_alloc (Below.refl w.heap.size w) (.cells #[.int .i64 a, .int .i64 b] 32)) h1)
  clear h1
  go_wp2_with fail
  go_ret
  exact ⟨rfl, hb.out⟩

set_option maxRecDepth 100000 in
theorem law05_ChainPlays_n_abbi (A : Option Addr) (m c : Nat) (a b x : Int) (w : World) (h : (m : Int) ≤ 60) (a0 : 1048576 < a) (a1 : 40 < a) (a2 : 0 ≤ a) (b0 : 0 ≤ b) (b1 : b ≤ 200) (b2 : b ≤ 1048576) :
    Calls Try.prog 4 #[.agg #[.int .i64 a, .int .i64 b], .slice A m c, .int .i64 x] w fun e w' => e = .returned (.bool true) ∧ Below w.heap.size w w' := by
  have c1 := fun W => chain_New_no a b W (by omega)
  replace c1 := Lib.hid c1
  go_enter Try.func4, Try.ntmps4
  go_wp2_with fail
  refine (c1.out _).mono ?_
  rintro e w1 ⟨rfl, rfl⟩
  go_wp2_with fail
  refine (law05_works _).mono ?_
  rintro e w1 ⟨rfl, h1⟩
  have hb := Lib.hid (bel_trans (bel_alloc (Below.refl w.heap.size w) (.cells #[.int .i64 a, .int .i64 b] 32)) h1)
  clear h1
  go_wp2_with fail
  go_ret
  exact ⟨rfl, hb.out⟩

set_option maxRecDepth 100000 in
theorem law05_ChainPlays_n_aibn (A : Option Addr) (m c : Nat) (a b x : Int) (w : World) (h : (m : Int) ≤ 60) (a0 : 0 ≤ a) (a1 : a ≤ 40) (a2 : a ≤ 1048576) (b0 : b < 0) (b1 : b ≤ 200) :
    Calls Try.prog 4 #[.agg #[.int .i64 a, .int .i64 b], .slice A m c, .int .i64 x] w fun e w' => e = .returned (.bool true) ∧ Below w.heap.size w w' := by
  have c1 := fun W => chain_New_no a b W (by omega)
  replace c1 := Lib.hid c1
  go_enter Try.func4, Try.ntmps4
  go_wp2_with fail
  refine (c1.out _).mono ?_
  rintro e w1 ⟨rfl, rfl⟩
  go_wp2_with fail
  refine (law05_works _).mono ?_
  rintro e w1 ⟨rfl, h1⟩
  have hb := Lib.hid (bel_trans (bel_alloc (Below.refl w.heap.size w) (.cells #[.int .i64 a, .int .i64 b] 32)) h1)
  clear h1
  go_wp2_with fail
  go_ret
  exact ⟨rfl, hb.out⟩

set_option maxRecDepth 100000 in
theorem law05_ChainPlays_n_aibb (A : Option Addr) (m c : Nat) (a b x : Int) (w : World) (h : (m : Int) ≤ 60) (a0 : 0 ≤ a) (a1 : a ≤ 40) (a2 : a ≤ 1048576) (b0 : 1048576 < b) (b1 : 200 < b) (b2 : 0 ≤ b) :
    Calls Try.prog 4 #[.agg #[.int .i64 a, .int .i64 b], .slice A m c, .int .i64 x] w fun e w' => e = .returned (.bool true) ∧ Below w.heap.size w w' := by
  have c1 := fun W => chain_New_no a b W (by omega)
  replace c1 := Lib.hid c1
  go_enter Try.func4, Try.ntmps4
  go_wp2_with fail
  refine (c1.out _).mono ?_
  rintro e w1 ⟨rfl, rfl⟩
  go_wp2_with fail
  refine (law05_works _).mono ?_
  rintro e w1 ⟨rfl, h1⟩
  have hb := Lib.hid (bel_trans (bel_alloc (Below.refl w.heap.size w) (.cells #[.int .i64 a, .int .i64 b] 32)) h1)
  clear h1
  go_wp2_with fail
  go_ret
  exact ⟨rfl, hb.out⟩

theorem law05_ChainPlays (A : Option Addr) (m c : Nat) (a b x : Int) (w : World) (D : Nat → Bool) (L N : Nat → Int) (hA : ActsAt w A m D L N) :
    Calls Try.prog 4 #[.agg #[.int .i64 a, .int .i64 b], .slice A m c, .int .i64 x] w fun e w' => e = .returned (.bool true) ∧ Below w.heap.size w w' := by
  by_cases hm : 60 < m
  · exact law05_ChainPlays_w1 A m c a b x w hA.1 (by omega)
  · by_cases h1 : 40 < a ∧ a ≤ 1048576
    · exact law05_ChainPlays_w2 A m c a b x w hA.1 (by omega) h1.1 h1.2
    · by_cases h2 : 200 < b ∧ b ≤ 1048576
      · by_cases h3 : a ≤ 40
        · exact law05_ChainPlays_w3 A m c a b x w hA.1 (by omega) h3 h2.1 h2.2
        · exact law05_ChainPlays_w4 A m c a b x w hA.1 (by omega) (by omega) (by omega) h2.1 h2.2
      · by_cases an : a < 0
        · by_cases bn : b < 0
          · exact law05_ChainPlays_n_anbn A m c a b x w (by omega) (by omega) (by omega) (by omega) (by omega)
          · by_cases bb : 1048576 < b
            · exact law05_ChainPlays_n_anbb A m c a b x w (by omega) (by omega) (by omega) (by omega) (by omega) (by omega)
            · exact law05_ChainPlays_n_anbi A m c a b x w (by omega) (by omega) (by omega) (by omega) (by omega) (by omega)
        · by_cases ab : 1048576 < a
          · by_cases bn : b < 0
            · exact law05_ChainPlays_n_abbn A m c a b x w (by omega) (by omega) (by omega) (by omega) (by omega) (by omega)
            · by_cases bb : 1048576 < b
              · exact law05_ChainPlays_n_abbb A m c a b x w (by omega) (by omega) (by omega) (by omega) (by omega) (by omega) (by omega)
              · exact law05_ChainPlays_n_abbi A m c a b x w (by omega) (by omega) (by omega) (by omega) (by omega) (by omega) (by omega)
          · by_cases bn : b < 0
            · exact law05_ChainPlays_n_aibn A m c a b x w (by omega) (by omega) (by omega) (by omega) (by omega) (by omega)
            · by_cases bb : 1048576 < b
              · exact law05_ChainPlays_n_aibb A m c a b x w (by omega) (by omega) (by omega) (by omega) (by omega) (by omega) (by omega)
              · obtain ⟨a, rfl⟩ : ∃ n : Nat, a = n := ⟨a.toNat, by omega⟩
                obtain ⟨b, rfl⟩ : ∃ n : Nat, b = n := ⟨b.toNat, by omega⟩
                exact law05_ChainPlays_run A m c a b D L N x w hA (by omega) (by omega) (by omega)
end Go.Proofs.Ytdhcmnbajkpjiaa
