/-
  slices.ContainsFunc over tickets; the first three of skip.reasons.
-/
import Derived.Test.YthmjbfocpdiikaaSkipA
namespace Go.Proofs.Ythmjbfocpdiikaa
open Go.RowKit
set_option linter.unusedVariables false
set_option linter.unusedSimpArgs false
attribute [local go_sem] drewN_alloc drewN_setCell

def tidx (p : SK.Tick → Bool) (l : List SK.Tick) : Int := match l.findIdx? p with | some i => (i : Int) | none => -1
theorem tidx_at {p : SK.Tick → Bool} {l : List SK.Tick} {k : Nat} (hk : k < l.length) (hn : ∀ j, j < k → p (l.getD j SK.t0) = false) (h : p (l.getD k SK.t0) = true) : tidx p l = k := by
  unfold tidx
  have : l.findIdx? p = some k := by
    rw [List.findIdx?_eq_some_iff_getElem]
    refine ⟨hk, by rw [← tick_getD hk]; exact h, fun j hj => ?_⟩
    have := hn j hj
    rw [tick_getD (show j < l.length by omega)] at this
    simp [this]
  rw [this]
theorem tidx_none {p : SK.Tick → Bool} {l : List SK.Tick} (hn : ∀ j, j < l.length → p (l.getD j SK.t0) = false) : tidx p l = -1 := by
  unfold tidx
  rw [List.findIdx?_eq_none_iff.2]
  intro m hm
  obtain ⟨j, hj, rfl⟩ := List.mem_iff_getElem.1 hm
  have := hn j hj
  rwa [tick_getD hj] at this
theorem tidx_ge (p : SK.Tick → Bool) (l : List SK.Tick) : decide (0 ≤ tidx p l) = l.any p := by
  unfold tidx
  rcases h : l.findIdx? p with _ | i
  · rw [List.findIdx?_eq_none_iff] at h
    have : l.any p = false := by simpa using h
    rw [this]; rfl
  · rw [List.findIdx?_eq_some_iff_getElem] at h
    obtain ⟨hi, hp, _⟩ := h
    have : l.any p = true := List.any_eq_true.2 ⟨_, List.getElem_mem hi, hp⟩
    rw [this]; simp
def TIdxRel (w : World) (p : SK.Tick → Bool) (l : List SK.Tick) (n : Nat) (i : Value) (wr : World) : Prop :=
  ∃ k : Nat, k ≤ n ∧ i = .int .i64 k ∧ (∀ j, j < k → p (l.getD j SK.t0) = false) ∧ Below w.heap.size w wr

set_option maxHeartbeats 4000000 in
theorem tick_IndexFunc {A : Option Addr} {n : Nat} {l : List SK.Tick} (c g : Nat) (lb : Array Value) (p : SK.Tick → Bool) {w : World} (h : TickAt w A n l)
    (eg : ∀ args w, (callFunc g args).run Try.prog w = .ok (.enter g args) w)
    (hp : ∀ m W, Below w.heap.size w W → TickBd m → Calls Try.prog g (#[.agg #[.int .i64 m.1, .int .i64 m.2.1, .int .i64 m.2.2.1, .int .i64 m.2.2.2.1, .int .i64 m.2.2.2.2]] ++ lb) W fun e w' => e = .returned (.bool (p m)) ∧ Below W.heap.size W w') :
    Calls Try.prog 97 #[.slice A n c, .func (.func g) #[] lb] w fun e w' => e = .returned (.int .i64 (tidx p l)) ∧ Below w.heap.size w w' := by
  obtain ⟨R, hR⟩ : ∃ R, tidx p l = R := ⟨_, rfl⟩
  rw [hR]
  have HR := Lib.hid hR
  have HX := Lib.hid h.1
  have HN := h.2.1
  have HB := Lib.hid (fun k (hk : k < n) => h.bd hk)
  have HC := Lib.hid h.2.2.2
  have HP := Lib.hid hp
  have hcf : ∀ m w, (callFunc g (#[m] ++ lb)).run Try.prog w = .ok (.enter g (#[m] ++ lb)) w := fun m w => eg _ w
  clear hR h hp
  go_enter Try.func97, Try.ntmps97
  go_wp2_with fail
  go_loopw [8] (fun i wr => TIdxRel w p l n i wr) (fun i _ => n - (intOf i).toNat)
  case atStart => exact ⟨0, Nat.zero_le _, rfl, fun j hj => absurd hj (by omega), Below.refl _ _⟩
  case round =>
    obtain ⟨k, hk, rfl, hnot, hbel⟩ := hrel
    have HNOT := Lib.hid hnot
    clear hnot
    have j1 : (0 : Int) ≤ (k : Int) := by omega
    by_cases hlt : (k : Int) < n
    · obtain ⟨b, off, rfl, hb, hcs⟩ := HC.out (by omega)
      obtain ⟨x0, x1, x2, x3, x4⟩ := (hcs k (by omega)).keep hbel hb
      have bd := HB.out k (by omega)
      obtain ⟨m, hm⟩ : ∃ m, l.getD k SK.t0 = m := ⟨_, rfl⟩
      rw [hm] at x0 x1 x2 x3 x4 bd
      have KP := Lib.hid (HP.out m wr hbel bd)
      have HM := Lib.hid hm
      clear hm hcs bd
      rcases hq : p m with _ | _
      · rw [hq] at KP
        have HE : Hid (∀ j, j < k + 1 → p (l.getD j SK.t0) = false) := Lib.hid (fun j hj => by
          rcases Nat.lt_or_ge j k with h1 | h1
          · exact HNOT.out j h1
          · obtain rfl : j = k := by omega
            rw [HM.out]; exact hq)
        clear hq
        go_wp2_with fail
        refine KP.out.mono ?_
        rintro e w1 ⟨rfl, h1⟩
        go_wp2_with fail
        go_roundw
        case rel => exact ⟨k + 1, by omega, by go_num, HE.out, (by repeat (first | exact Below.refl _ _ | assumption | refine bel_drew ?_ | refine bel_drewN ?_ _ | refine bel_alloc ?_ _ | refine bel_set ?_ (by first | (dsimp only; omega) | (simp; done) | (simp; omega)) _ | refine bel_trans ?_ (by assumption)))⟩
        case measure => simp [intOf]; omega
      · rw [hq] at KP
        have HE : Hid ((k : Int) = R) := Lib.hid ((tidx_at (by rw [HX.out]; omega) HNOT.out (by rw [HM.out]; exact hq)).symm.trans HR.out)
        clear hq
        go_wp2_with fail
        refine KP.out.mono ?_
        rintro e w1 ⟨rfl, h1⟩
        go_wp2_with fail
        go_ret
        exact ⟨ret_int HE.out, (by repeat (first | exact Below.refl _ _ | assumption | refine bel_drew ?_ | refine bel_drewN ?_ _ | refine bel_alloc ?_ _ | refine bel_set ?_ (by first | (dsimp only; omega) | (simp; done) | (simp; omega)) _ | refine bel_trans ?_ (by assumption)))⟩
    · have HE : Hid ((-1 : Int) = R) := Lib.hid ((tidx_none (fun j hj => HNOT.out j (by rw [HX.out] at hj; omega))).symm.trans HR.out)
      go_wp2_with fail
      go_ret
      exact ⟨ret_int HE.out, (by repeat (first | exact Below.refl _ _ | assumption | refine bel_drew ?_ | refine bel_drewN ?_ _ | refine bel_alloc ?_ _ | refine bel_set ?_ (by first | (dsimp only; omega) | (simp; done) | (simp; omega)) _ | refine bel_trans ?_ (by assumption)))⟩
theorem tick_ContainsFunc {A : Option Addr} {n : Nat} {l : List SK.Tick} (c g : Nat) (lb : Array Value) (p : SK.Tick → Bool) {w : World} (h : TickAt w A n l)
    (eg : ∀ args w, (callFunc g args).run Try.prog w = .ok (.enter g args) w)
    (hp : ∀ m W, Below w.heap.size w W → TickBd m → Calls Try.prog g (#[.agg #[.int .i64 m.1, .int .i64 m.2.1, .int .i64 m.2.2.1, .int .i64 m.2.2.2.1, .int .i64 m.2.2.2.2]] ++ lb) W fun e w' => e = .returned (.bool (p m)) ∧ Below W.heap.size W w') :
    Calls Try.prog 85 #[.slice A n c, .func (.func g) #[] lb] w fun e w' => e = .returned (.bool (l.any p)) ∧ Below w.heap.size w w' := by
  have K := tick_IndexFunc c g lb p h eg hp
  rw [← tidx_ge]
  generalize tidx p l = x at *
  replace K := Lib.hid K
  clear h hp
  go_enter Try.func85, Try.ntmps85
  go_wp2_with fail
  refine K.out.mono ?_
  rintro e w1 ⟨rfl, h1⟩
  go_wp2_with fail
  exact bodyPost_ret (v := .bool (decide (0 ≤ x))) (by simp [results, Try.results85, go_sem]) rfl ⟨rfl, (by repeat (first | exact Below.refl _ _ | assumption | refine bel_drew ?_ | refine bel_drewN ?_ _ | refine bel_alloc ?_ _ | refine bel_set ?_ (by first | (dsimp only; omega) | (simp; done) | (simp; omega)) _ | refine bel_trans ?_ (by assumption)))⟩

theorem reason1 (TA MA : Option Addr) (tn tc mn mc : Nat) (f wt a : Int) (w : World) :
    Calls Try.prog 80 #[.agg #[.slice TA tn tc, .slice MA mn mc, .int .i64 f, .int .i64 wt], .int .i64 a] w fun e w' => e = .returned (.bool (decide (a < 0 ∨ (tn : Int) ≤ a))) ∧ Below w.heap.size w w' := by
  by_cases h0 : a < 0
  · have g0 : decide (a < 0) = true := decide_eq_true h0
    have e : decide (a < 0 ∨ (tn : Int) ≤ a) = true := decide_eq_true (.inl h0)
    rw [e]
    go_enter Try.func80, Try.ntmps80
    go_wp2_with fail
    exact bodyPost_ret (v := .bool true) (by simp [results, Try.results80, go_sem]) rfl ⟨rfl, (by repeat (first | exact Below.refl _ _ | assumption | refine bel_drew ?_ | refine bel_drewN ?_ _ | refine bel_alloc ?_ _ | refine bel_set ?_ (by first | (dsimp only; omega) | (simp; done) | (simp; omega)) _ | refine bel_trans ?_ (by assumption)))⟩
  · have g0 : decide (a < 0) = false := decide_eq_false h0
    have e : decide (a < 0 ∨ (tn : Int) ≤ a) = decide ((tn : Int) ≤ a) := by simp [h0]
    rw [e]
    go_enter Try.func80, Try.ntmps80
    go_wp2_with fail
    exact bodyPost_ret (v := .bool (decide ((tn : Int) ≤ a))) (by simp [results, Try.results80, go_sem]) rfl ⟨rfl, (by repeat (first | exact Below.refl _ _ | assumption | refine bel_drew ?_ | refine bel_drewN ?_ _ | refine bel_alloc ?_ _ | refine bel_set ?_ (by first | (dsimp only; omega) | (simp; done) | (simp; omega)) _ | refine bel_trans ?_ (by assumption)))⟩
set_option maxHeartbeats 2000000 in
theorem reason2 {TA MA : Option Addr} {tn mn : Nat} {ts : List SK.Tick} {ms : List PO.Mem} (tc mc k : Nat) (f wt : Int) {w : World} (h : TickAt w TA tn ts) (hm : MemAt w MA mn ms) (hk : k < tn) :
    Calls Try.prog 81 #[.agg #[.slice TA tn tc, .slice MA mn mc, .int .i64 f, .int .i64 wt], .int .i64 (k : Int)] w fun e w' => e = .returned (.bool (decide (SK.member ms (SK.cl ts k) < 0))) ∧ Below w.heap.size w w' := by
  have K : Hid (∀ W, Below w.heap.size w W → Calls Try.prog 82 #[.agg #[.slice TA tn tc, .slice MA mn mc, .int .i64 f, .int .i64 wt], .int .i64 (k : Int)] W fun e w' => e = .returned (.int .i64 (SK.member ms (SK.cl ts k))) ∧ Below W.heap.size W w') := Lib.hid (fun W hW => skip_member tc mc k f wt (h.keep hW) (hm.keep hW) hk)
  generalize SK.member ms (SK.cl ts k) = r at *
  clear h hm
  go_enter Try.func81, Try.ntmps81
  go_wp2_with fail
  refine (K.out _ (by exact (by repeat (first | exact Below.refl _ _ | assumption | refine bel_drew ?_ | refine bel_drewN ?_ _ | refine bel_alloc ?_ _ | refine bel_set ?_ (by first | (dsimp only; omega) | (simp; done) | (simp; omega)) _ | refine bel_trans ?_ (by assumption))))).mono ?_
  rintro e w1 ⟨rfl, h1⟩
  go_wp2_with fail
  exact bodyPost_ret (v := .bool (decide (r < 0))) (by simp [results, Try.results81, go_sem]) rfl ⟨rfl, (by repeat (first | exact Below.refl _ _ | assumption | refine bel_drew ?_ | refine bel_drewN ?_ _ | refine bel_alloc ?_ _ | refine bel_set ?_ (by first | (dsimp only; omega) | (simp; done) | (simp; omega)) _ | refine bel_trans ?_ (by assumption)))⟩

set_option maxHeartbeats 2000000 in
theorem reason31 {TA : Option Addr} {tn : Nat} {ts : List SK.Tick} (tc p k : Nat) (m : SK.Tick) {w : World} (h : TickAt w TA tn ts) (hk : k < tn)
    (c0 : w.cell? ⟨p, 0, none⟩ = some (.slice TA tn tc)) (c4 : w.cell? ⟨p + 1, 0, none⟩ = some (.int .i64 (k : Int))) :
    Calls Try.prog 84 #[.agg #[.int .i64 m.1, .int .i64 m.2.1, .int .i64 m.2.2.1, .int .i64 m.2.2.2.1, .int .i64 m.2.2.2.2], .pointer (some ⟨p, 0, none⟩), .pointer (some ⟨p + 1, 0, none⟩)] w fun e w' => e = .returned (.bool (decide (m.2.1 = SK.cl ts k))) ∧ Below w.heap.size w w' := by
  obtain ⟨b, off, rfl, hb, hc⟩ := h.2.2.2 (by omega)
  obtain ⟨x0, x1, x2, x3, x4⟩ := hc k hk
  have e : SK.cl ts k = (ts.getD k SK.t0).2.1 := rfl
  rw [e]
  generalize ts.getD k SK.t0 = t at *
  have hn := h.2.1
  have j0 : (0 : Int) ≤ (k : Int) := by omega
  have j1 : (k : Int) < (tn : Int) := by omega
  have sp := World.block_lt_of_cell? _ _ c0
  have sp1 := World.block_lt_of_cell? _ _ c4
  dsimp only at sp sp1
  obtain ⟨V, hV⟩ : ∃ V, w.alloc (.cells #[.int .i64 m.1, .int .i64 m.2.1, .int .i64 m.2.2.1, .int .i64 m.2.2.2.1, .int .i64 m.2.2.2.2] 51) = V := ⟨_, rfl⟩
  have hbV : Below w.heap.size w V := by rw [← hV]; exact (by repeat (first | exact Below.refl _ _ | assumption | refine bel_drew ?_ | refine bel_drewN ?_ _ | refine bel_alloc ?_ _ | refine bel_set ?_ (by first | (dsimp only; omega) | (simp; done) | (simp; omega)) _ | refine bel_trans ?_ (by assumption)))
  have d0 := (hbV.cell (p := ⟨p, 0, none⟩) sp).trans c0
  have d4 := (hbV.cell (p := ⟨p + 1, 0, none⟩) sp1).trans c4
  have d1 := (hbV.cell (p := ⟨b, off + k * 5 + 1, none⟩) hb).trans x1
  have dm : V.cell? ⟨w.heap.size, 1, none⟩ = some (.int .i64 m.2.1) := by rw [← hV]; simp [go_sem]
  replace hV := Lib.hid hV
  clear x0 x1 x2 x3 x4 hc h c0 c4 e
  go_enter Try.func84, Try.ntmps84
  go_wp2_with fail
  rw [hV.out]
  go_quiet (fail)
  go_wp2_with fail
  exact bodyPost_ret (v := .bool (m.2.1 == t.2.1)) (by simp [results, Try.results84, go_sem]) rfl ⟨ret_bool (by rw [Bool.eq_iff_iff]; simp), bel_drewN hbV nq⟩
end Go.Proofs.Ythmjbfocpdiikaa
