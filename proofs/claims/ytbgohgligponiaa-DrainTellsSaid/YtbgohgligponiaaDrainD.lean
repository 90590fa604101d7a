/-
  The contracts of the references' Left, Last and Plan.
-/
import Derived.Test.YtbgohgligponiaaDrainB
import Derived.OwnWalk
import Derived.Maps.AppendAt
import Derived.Deep.AppendLies
namespace Go.Proofs.Ytbgohgligponiaa
open Go.RowKit
set_option linter.unusedVariables false
attribute [local go_sem] drewN_alloc drewN_setCell

theorem ints_of_own {w : World} {base : Nat} {t : TypeId} {v : Value} {n : Nat} {xs : List Int} (h : w.ownsRow base t 1 v n (xs.map (Value.int .i64))) (hn : n ≤ 9223372036854775807) : ∃ A c, v = .slice A n c ∧ IntsAt w A n xs := by
  have hl : xs.length = n := by simpa using h.1
  by_cases h0 : 0 < n
  · obtain ⟨g, cap, rfl, _, hg⟩ := h.form h0
    refine ⟨_, _, rfl, hl, hn, fun _ => ⟨g, 0, rfl, hg, fun i hi => ?_⟩⟩
    rw [Nat.zero_add, h.cellAt i (by omega)]
    simp [List.getD, show i < xs.length by omega]
  · have hn0 : n = 0 := by omega
    subst hn0
    have hx : xs = [] := List.eq_nil_of_length_eq_zero hl
    subst hx
    rcases h.2 with ⟨rfl, _⟩ | ⟨g, cap, cur, rfl, _, _, _, _, _⟩
    · exact ⟨_, _, rfl, IntsAt.nil⟩
    · exact ⟨_, _, rfl, IntsAt.nil⟩

theorem ref22_Left (w q t : Int) (W : World) (hw : -9223372036854775808 ≤ w ∧ w ≤ 9223372036854775807) (hq : -9223372036854775808 ≤ q ∧ q ≤ 9223372036854775807) (ht : -9223372036854775808 ≤ t ∧ t ≤ 9223372036854775807) :
    Calls Try.prog 47 #[.int .i64 w, .int .i64 q, .int .i64 t] W fun e w' => e = .returned (.tuple #[.int .i64 (PD.left w q t).1, .bool (PD.left w q t).2]) ∧ W = w' := by
  by_cases g1 : w < 0
  · rw [show PD.left w q t = (0, false) by unfold PD.left; rw [if_neg (by rw [(PD.may_no _ _ _).2 (by omega)]; simp)]]
    go_enter Try.func47, Try.ntmps47
    go_wp2
    go_ret2
    exact ⟨rfl, rfl⟩
  · have g1' : 0 ≤ w := by omega
    by_cases g2 : q < 1
    · rw [show PD.left w q t = (0, false) by unfold PD.left; rw [if_neg (by rw [(PD.may_no _ _ _).2 (by omega)]; simp)]]
      clear g1
      go_enter Try.func47, Try.ntmps47
      go_wp2
      go_ret2
      exact ⟨rfl, rfl⟩
    · have g2' : 1 ≤ q := by omega
      by_cases g3 : t < 0
      · rw [show PD.left w q t = (0, false) by unfold PD.left; rw [if_neg (by rw [(PD.may_no _ _ _).2 (by omega)]; simp)]]
        clear g1 g2
        go_enter Try.func47, Try.ntmps47
        go_wp2
        go_ret2
        exact ⟨rfl, rfl⟩
      · have g3' : 0 ≤ t := by omega
        have hm := (PD.may_iff w q t).2 ⟨g1', g2', g3'⟩
        have d0 : 0 ≤ w / q := Int.ediv_nonneg g1' (by omega)
        have d1 : w / q ≤ w := Int.ediv_le_self q g1'
        clear g1 g2 g3
        by_cases h : w / q < t
        · rw [PD.left_none hm hw.2 h]
          clear hm
          go_enter Try.func47, Try.ntmps47
          go_wp2
          go_ret2
          exact ⟨rfl, rfl⟩
        · have h' : t ≤ w / q := by omega
          obtain ⟨e1, e2, e3⟩ := PD.left_some hm hw.2 h'
          rw [e1]
          clear hm h e1
          go_enter Try.func47, Try.ntmps47
          go_wp2
          go_ret2
          exact ⟨rfl, rfl⟩

theorem ref22_Last (a b : Int) (w : World) (ha : -9223372036854775808 ≤ a ∧ a ≤ 9223372036854775807) (hb : -9223372036854775808 ≤ b ∧ b ≤ 9223372036854775807) :
    Calls Try.prog 48 #[.int .i64 a, .int .i64 b] w fun e w' => e = .returned (.tuple #[.int .i64 (PN.ceil a b).1, .bool (PN.ceil a b).2]) ∧ w = w' := by
  obtain ⟨a1, a2⟩ := ha
  obtain ⟨b1, b2⟩ := hb
  by_cases h1 : a < 0
  · rw [PD.ceil_no (by omega)]
    go_enter Try.func48, Try.ntmps48
    go_wp2
    go_ret2
    exact ⟨rfl, rfl⟩
  · have h1' : 0 ≤ a := by omega
    by_cases h2 : b < 1
    · rw [PD.ceil_no (by omega)]
      clear h1
      go_enter Try.func48, Try.ntmps48
      go_wp2
      go_ret2
      exact ⟨rfl, rfl⟩
    · have h2' : 1 ≤ b := by omega
      have hv : PN.ceil a b = ((a + (b - 1)) / b, true) := by unfold PN.ceil; rw [if_neg (by omega)]
      have hd := Int.mul_ediv_add_emod a b
      have m0 : 0 ≤ a % b := Int.emod_nonneg _ (by omega)
      have m1 : a % b < b := Int.emod_lt_of_pos _ (by omega)
      have d0 : 0 ≤ a / b := Int.ediv_nonneg h1' (by omega)
      have d1 : a / b ≤ a := Int.ediv_le_self b h1'
      by_cases h3 : 0 < a % b
      · have hq : (a + (b - 1)) / b = a / b + 1 := by
          have e : a + (b - 1) = (a % b - 1) + b * (a / b + 1) := by rw [Int.mul_add]; omega
          rw [e, Int.add_mul_ediv_left _ _ (by omega), Int.ediv_eq_zero_of_lt (by omega) (by omega)]; omega
        have hlt : a / b < a := by
          by_cases hb1 : b = 1
          · subst hb1; omega
          · have : (a / b) * 2 ≤ (a / b) * b := Int.mul_le_mul_of_nonneg_left (by omega) d0
            rw [Int.mul_comm (a / b) b] at this
            omega
        rw [hv, hq]
        clear hv hq hd h1 h2 m1
        go_enter Try.func48, Try.ntmps48
        go_wp2
        go_ret2
        exact ⟨rfl, rfl⟩
      · have h3' : a % b ≤ 0 := by omega
        have hq : (a + (b - 1)) / b = a / b := by
          have e : a + (b - 1) = (b - 1) + b * (a / b) := by omega
          rw [e, Int.add_mul_ediv_left _ _ (by omega), Int.ediv_eq_zero_of_lt (by omega) (by omega)]; omega
        rw [hv, hq]
        clear hv hq hd h1 h2 m1 h3
        go_enter Try.func48, Try.ntmps48
        go_wp2
        go_ret2
        exact ⟨rfl, rfl⟩

theorem ref22_Plan_no (x q : Int) (w : World) (hx : -9223372036854775808 ≤ x ∧ x ≤ 9223372036854775807) (hq : -9223372036854775808 ≤ q ∧ q ≤ 9223372036854775807) (h : ¬ (0 ≤ x ∧ 1 ≤ q)) :
    Calls Try.prog 50 #[.int .i64 x, .int .i64 q] w (GivesInts w []) := by
  have c := fun W => ref22_Last x q W hx hq
  rw [PD.ceil_no h] at c
  have C := Lib.hid c
  clear c h
  go_enter Try.func50, Try.ntmps50
  go_wp2_with fail
  refine (C.out _).mono ?_
  rintro e w1 ⟨rfl, rfl⟩
  go_wp2_with fail
  go_ret
  exact ⟨none, 0, 0, rfl, IntsAt.nil, (by repeat (first | exact Below.refl _ _ | assumption | refine bel_drew ?_ | refine bel_drewN ?_ _ | refine bel_alloc ?_ _ | refine bel_set ?_ (by first | (dsimp only; omega) | (simp; done) | (simp; omega)) _ | refine bel_trans ?_ (by assumption)))⟩

theorem ref22_Plan_big (x q : Int) (w : World) (hx : -9223372036854775808 ≤ x ∧ x ≤ 9223372036854775807) (hq : -9223372036854775808 ≤ q ∧ q ≤ 9223372036854775807) (h0 : 0 ≤ x) (h1 : 1 ≤ q) (h : 4096 < (PN.ceil x q).1) :
    Calls Try.prog 50 #[.int .i64 x, .int .i64 q] w (GivesInts w []) := by
  have c := fun W => ref22_Last x q W hx hq
  rw [(PD.ceil_bd h0 h1).1] at c
  have C := Lib.hid c
  clear c
  go_enter Try.func50, Try.ntmps50
  go_wp2_with fail
  refine (C.out _).mono ?_
  rintro e w1 ⟨rfl, rfl⟩
  go_wp2_with fail
  go_ret
  exact ⟨none, 0, 0, rfl, IntsAt.nil, (by repeat (first | exact Below.refl _ _ | assumption | refine bel_drew ?_ | refine bel_drewN ?_ _ | refine bel_alloc ?_ _ | refine bel_set ?_ (by first | (dsimp only; omega) | (simp; done) | (simp; omega)) _ | refine bel_trans ?_ (by assumption)))⟩

/-- What holds at the head of the loop. -/
def RefPlanRel (w : World) (x q : Int) (N : Nat) (s0 s7 : Value) (wr : World) : Prop :=
  ∃ k : Nat, k ≤ N ∧ s0 = .int .i64 (PD.rem x q k) ∧ wr.ownsRow w.heap.size 3 1 s7 k ((PD.planL x q k).map (Value.int .i64)) ∧ Below w.heap.size w wr

set_option maxHeartbeats 1000000 in
theorem ref22_Plan_yes (x q : Int) (N : Nat) (w : World) (hx : x ≤ 9223372036854775807) (hq : q ≤ 9223372036854775807) (h0 : 0 ≤ x) (h1 : 1 ≤ q) (h : (N : Int) ≤ 4096)
    (hpos : Hid (∀ i : Nat, i < N → 0 < PD.rem x q i)) (hend : Hid (PD.rem x q N = 0))
    (hc : Hid (∀ W, Calls Try.prog 48 #[.int .i64 x, .int .i64 q] W fun e w' => e = .returned (.tuple #[.int .i64 (N : Int), .bool true]) ∧ W = w')) :
    Calls Try.prog 50 #[.int .i64 x, .int .i64 q] w (GivesInts w (PD.planL x q N)) := by
  have hinfo : (Try.prog.info? 3).map (fun i => (i.zero, i.size, i.bytes)) = some (some (.int .i64 0), 1, 8) := by kernel_rfl
  obtain ⟨i0, hi, hz0, hz1, hz2⟩ := info_parts hinfo
  have HI := Lib.hid hi
  have HZ0 := Lib.hid hz0
  have HZ1 := Lib.hid hz1
  have HZ2 := Lib.hid hz2
  clear hinfo hi hz0 hz1 hz2
  go_enter Try.func50, Try.ntmps50
  go_wp2_with fail
  refine (hc.out _).mono ?_
  rintro e w1 ⟨rfl, rfl⟩
  go_wp2_with fail
  go_loopw [0, 7, 8] (fun s0 s7 s8 wr => RefPlanRel w x q N s0 s7 wr) (fun s0 s7 s8 _ => (intOf s0).toNat)
  case atStart => exact ⟨0, Nat.zero_le _, rfl, World.ownsRow_nil _ _ _ _, Below.refl _ _⟩
  case round =>
    obtain ⟨k, hk, rfl, hown, hbel⟩ := hrel
    by_cases hlt : k < N
    · have hp := hpos.out k hlt
      have bd := PD.rem_bd h0 h1 k
      obtain ⟨bd1, bd2⟩ := bd
      have e1 : PD.rem x q (k + 1) = PD.rem x q k - PD.el x q k := rfl
      have e2 : PD.el x q k = min (PD.rem x q k) q := rfl
      have e3 := PD.planL_snoc x q k
      generalize PD.rem x q k = R at *
      generalize PD.el x q k = E at *
      have E1 := Lib.hid e1
      have E2 := Lib.hid e2
      have E3 := Lib.hid e3
      have HO := Lib.hid hown
      have hone : ∀ u ∈ [Value.int .i64 E], u.oneCell' = true := by simp [Value.oneCell']
      have HONE := Lib.hid hone
      have HLT := Lib.hid hlt
      clear e1 e2 e3 hown hone hlt
      by_cases hle : q ≤ R
      · obtain rfl : E = q := by have := E2.out; omega
        go_wp2_with (at_builtin; refine wpList_append_own _ rfl _ _ 51 rfl w.heap.size 3 i0 (.int .i64 0) 1 8 Try.underlying51 HI.out HZ0.out HZ1.out HZ2.out rfl (by decide) _ _ _ rfl (HO.out.alloc _) ⟨wr.heap.size, 0, none⟩ 1 1 [.int .i64 E] rfl rfl (cell_one_new _ _ _) HONE.out (by unfold maxLen; omega) (by omega) (by have := hbel.size; simp; omega) ?_; intro v' w2 hown' hgrow _)
        have HO' := Lib.hid hown'
        have hb2 : Below w.heap.size w w2 := (bel_alloc hbel _).grown hgrow (by have := hbel.size; simp; omega) (fun g hg => (HO.out.lt g hg).1)
        clear hown' hgrow
        go_wp2_with fail
        go_roundw
        case rel => exact ⟨k + 1, HLT.out, by have := E1.out; rw [this], by rw [E3.out, List.map_append]; exact HO'.out, hb2⟩
        case measure => simp [intOf]; omega
      · obtain rfl : E = R := by have := E2.out; omega
        have hle' : E < q := by omega
        clear hle
        go_wp2_with (at_builtin; refine wpList_append_own _ rfl _ _ 51 rfl w.heap.size 3 i0 (.int .i64 0) 1 8 Try.underlying51 HI.out HZ0.out HZ1.out HZ2.out rfl (by decide) _ _ _ rfl (HO.out.alloc _) ⟨wr.heap.size, 0, none⟩ 1 1 [.int .i64 E] rfl rfl (cell_one_new _ _ _) HONE.out (by unfold maxLen; omega) (by omega) (by have := hbel.size; simp; omega) ?_; intro v' w2 hown' hgrow _)
        have HO' := Lib.hid hown'
        have hb2 : Below w.heap.size w w2 := (bel_alloc hbel _).grown hgrow (by have := hbel.size; simp; omega) (fun g hg => (HO.out.lt g hg).1)
        clear hown' hgrow
        go_wp2_with fail
        go_roundw
        case rel => exact ⟨k + 1, HLT.out, by have := E1.out; rw [this, Int.sub_self], by rw [E3.out, List.map_append]; exact HO'.out, hb2⟩
        case measure => simp [intOf]; omega
    · obtain rfl : k = N := by omega
      have hz : PD.rem x q k ≤ 0 := by have := hend.out; omega
      have HO := Lib.hid hown
      clear hown
      go_wp2_with fail
      go_ret
      obtain ⟨A, c, hv, hi⟩ := ints_of_own HO.out (by omega)
      exact ⟨A, _, c, congrArg Ending.returned hv, hi, hbel⟩

theorem ref22_Plan (x q : Int) (w : World) (hx : -9223372036854775808 ≤ x ∧ x ≤ 9223372036854775807) (hq : -9223372036854775808 ≤ q ∧ q ≤ 9223372036854775807) :
    Calls Try.prog 50 #[.int .i64 x, .int .i64 q] w (GivesInts w (PD.plan x q)) := by
  by_cases h : 0 ≤ x ∧ 1 ≤ q
  · obtain ⟨e1, e2, e3, _, _⟩ := PD.ceil_bd h.1 h.2
    by_cases h4 : (PN.ceil x q).1 ≤ 4096
    · have hv : PD.plan x q = PD.planL x q (PN.ceil x q).1.toNat := by unfold PD.plan; rw [if_pos ⟨e1, h4⟩]
      rw [hv]
      refine ref22_Plan_yes x q (PN.ceil x q).1.toNat w hx.2 hq.2 h.1 h.2 (by omega) (fun i hi => PD.rem_pos h.1 h.2 (by omega)) (PD.rem_end h.1 h.2) ?_
      intro W
      have := ref22_Last x q W hx hq
      rw [e1] at this
      rw [Int.toNat_of_nonneg e2]
      exact this
    · have hv : PD.plan x q = [] := by unfold PD.plan; rw [if_neg (by omega)]
      rw [hv]
      exact ref22_Plan_big x q w hx hq h.1 h.2 (by omega)
  · have hv : PD.plan x q = [] := by unfold PD.plan; rw [if_neg (by rw [PD.ceil_no h]; simp)]
    rw [hv]
    exact ref22_Plan_no x q w hx hq h
end Go.Proofs.Ytbgohgligponiaa
