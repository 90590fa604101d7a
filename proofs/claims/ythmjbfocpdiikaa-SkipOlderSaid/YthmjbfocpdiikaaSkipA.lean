/-
  Tickets in memory; skip.asked.member.
-/
import Derived.Test.YthmjbfocpdiikaaMemP
import Derived.Test.YthmjbfocpdiikaaPlainSkip
namespace Go.Proofs.Ythmjbfocpdiikaa
open Go.RowKit
set_option linter.unusedVariables false
set_option linter.unusedSimpArgs false
attribute [local go_sem] drewN_alloc drewN_setCell

def TickBd (t : SK.Tick) : Prop := Bd t.1 ∧ Bd t.2.1 ∧ Bd t.2.2.1 ∧ Bd t.2.2.2.1 ∧ Bd t.2.2.2.2
def TickCells (w : World) (b off : Nat) (t : SK.Tick) : Prop :=
  w.cell? ⟨b, off, none⟩ = some (.int .i64 t.1) ∧ w.cell? ⟨b, off + 1, none⟩ = some (.int .i64 t.2.1) ∧ w.cell? ⟨b, off + 2, none⟩ = some (.int .i64 t.2.2.1) ∧ w.cell? ⟨b, off + 3, none⟩ = some (.int .i64 t.2.2.2.1) ∧ w.cell? ⟨b, off + 4, none⟩ = some (.int .i64 t.2.2.2.2)
theorem TickCells.keep {B : Nat} {w w' : World} {b off : Nat} {t : SK.Tick} (h : TickCells w b off t) (k : Below B w w') (hb : b < B) : TickCells w' b off t :=
  ⟨(k.cell hb).trans h.1, (k.cell hb).trans h.2.1, (k.cell hb).trans h.2.2.1, (k.cell hb).trans h.2.2.2.1, (k.cell hb).trans h.2.2.2.2⟩
/-- The slice value of length n at A reads as the tickets l. -/
def TickAt (w : World) (A : Option Addr) (n : Nat) (l : List SK.Tick) : Prop :=
  l.length = n ∧ n ≤ 9223372036854775807 ∧ (∀ t ∈ l, TickBd t) ∧ (0 < n → ∃ b off, A = some ⟨b, off, none⟩ ∧ b < w.heap.size ∧ ∀ i, i < n → TickCells w b (off + i * 5) (l.getD i SK.t0))
theorem TickAt.keep {w w' : World} {A : Option Addr} {n : Nat} {l : List SK.Tick} (h : TickAt w A n l) (k : Below w.heap.size w w') : TickAt w' A n l :=
  ⟨h.1, h.2.1, h.2.2.1, fun hn => by
    obtain ⟨b, off, e, hb, hc⟩ := h.2.2.2 hn
    exact ⟨b, off, e, Nat.lt_of_lt_of_le hb k.size, fun i hi => (hc i hi).keep k hb⟩⟩
theorem TickAt.nil {w : World} {A : Option Addr} : TickAt w A 0 [] := ⟨rfl, by omega, fun _ h => by simp at h, fun h => absurd h (by omega)⟩
theorem tick_getD {l : List SK.Tick} {k : Nat} (hk : k < l.length) : l.getD k SK.t0 = l[k] := by simp [List.getD, hk]
theorem TickAt.bd {w : World} {A : Option Addr} {n : Nat} {l : List SK.Tick} (h : TickAt w A n l) {k : Nat} (hk : k < n) : TickBd (l.getD k SK.t0) := by
  rw [tick_getD (by have := h.1; omega)]
  exact h.2.2.1 _ (List.getElem_mem _)

set_option maxHeartbeats 2000000 in
theorem skip_member1 {TA : Option Addr} {tn : Nat} {ts : List SK.Tick} (tc p k : Nat) (m : PO.Mem) {w : World} (h : TickAt w TA tn ts) (hk : k < tn)
    (c0 : w.cell? ⟨p, 0, none⟩ = some (.slice TA tn tc)) (c4 : w.cell? ⟨p + 1, 0, none⟩ = some (.int .i64 (k : Int))) :
    Calls Try.prog 96 #[.agg #[.int .i64 m.1, .int .i64 m.2.1, .int .i64 m.2.2.1, .int .i64 m.2.2.2], .pointer (some ⟨p, 0, none⟩), .pointer (some ⟨p + 1, 0, none⟩)] w fun e w' => e = .returned (.bool (decide (m.1 = SK.cl ts k))) ∧ Below w.heap.size w w' := by
  obtain ⟨b, off, rfl, hb, hc⟩ := h.2.2.2 (by omega)
  obtain ⟨x0, x1, x2, x3, x4⟩ := hc k hk
  have e : SK.cl ts k = (ts.getD k SK.t0).2.1 := rfl
  rw [e]
  generalize ts.getD k SK.t0 = t at *
  have hn := h.2.1
  have j0 : (0 : Int) ≤ (k : Int) := by omega
  have j1 : (k : Int) < (tn : Int) := by omega
  have sp := World.block_lt_of_cell? _ _ c0
  have sp1 := World.block_lt_of_cell? _ _ c4
  dsimp only at sp sp1
  obtain ⟨V, hV⟩ : ∃ V, w.alloc (.cells #[.int .i64 m.1, .int .i64 m.2.1, .int .i64 m.2.2.1, .int .i64 m.2.2.2] 34) = V := ⟨_, rfl⟩
  have hbV : Below w.heap.size w V := by rw [← hV]; exact (by repeat (first | exact Below.refl _ _ | assumption | refine bel_drew ?_ | refine bel_drewN ?_ _ | refine bel_alloc ?_ _ | refine bel_set ?_ (by first | (dsimp only; omega) | (simp; done) | (simp; omega)) _ | refine bel_trans ?_ (by assumption)))
  have d0 := (hbV.cell (p := ⟨p, 0, none⟩) sp).trans c0
  have d4 := (hbV.cell (p := ⟨p + 1, 0, none⟩) sp1).trans c4
  have d1 := (hbV.cell (p := ⟨b, off + k * 5 + 1, none⟩) hb).trans x1
  have dm : V.cell? ⟨w.heap.size, 0, none⟩ = some (.int .i64 m.1) := by rw [← hV]; simp [go_sem]
  replace hV := Lib.hid hV
  clear x0 x1 x2 x3 x4 hc h c0 c4 e
  go_enter Try.func96, Try.ntmps96
  go_wp2_with fail
  rw [hV.out]
  go_quiet (fail)
  go_wp2_with fail
  exact bodyPost_ret (v := .bool (m.1 == t.2.1)) (by simp [results, Try.results96, go_sem]) rfl ⟨ret_bool (by rw [Bool.eq_iff_iff]; simp), bel_drewN hbV nq⟩

set_option maxHeartbeats 2000000 in
theorem skip_member {TA MA : Option Addr} {tn mn : Nat} {ts : List SK.Tick} {ms : List PO.Mem} (tc mc k : Nat) (f wt : Int) {w : World} (h : TickAt w TA tn ts) (hm : MemAt w MA mn ms) (hk : k < tn) :
    Calls Try.prog 82 #[.agg #[.slice TA tn tc, .slice MA mn mc, .int .i64 f, .int .i64 wt], .int .i64 (k : Int)] w fun e w' => e = .returned (.int .i64 (SK.member ms (SK.cl ts k))) ∧ Below w.heap.size w w' := by
  obtain ⟨p, hp⟩ : ∃ p, w.heap.size = p := ⟨_, rfl⟩
  obtain ⟨V, hV⟩ : ∃ V, (w.alloc (.cells #[.slice TA tn tc, .slice MA mn mc, .int .i64 f, .int .i64 wt] 79)).alloc (.cells #[.int .i64 (k : Int)] 3) = V := ⟨_, rfl⟩
  have hbV : Below w.heap.size w V := by rw [← hV]; exact (by repeat (first | exact Below.refl _ _ | assumption | refine bel_drew ?_ | refine bel_drewN ?_ _ | refine bel_alloc ?_ _ | refine bel_set ?_ (by first | (dsimp only; omega) | (simp; done) | (simp; omega)) _ | refine bel_trans ?_ (by assumption)))
  have sV : p + 1 < V.heap.size := by rw [← hV, ← hp]; simp
  have c0 : V.cell? ⟨p, 0, none⟩ = some (.slice TA tn tc) := by rw [← hV, ← hp]; simp [go_sem]
  have c1 : V.cell? ⟨p, 1, none⟩ = some (.slice MA mn mc) := by rw [← hV, ← hp]; simp [go_sem]
  have c4 : V.cell? ⟨p + 1, 0, none⟩ = some (.int .i64 (k : Int)) := by rw [← hV, ← hp]; simp [go_sem]
  have hT := h.keep hbV
  have K := Lib.hid (mem_IndexFunc mc 96 #[.pointer (some ⟨p, 0, none⟩), .pointer (some ⟨p + 1, 0, none⟩)] (fun m => decide (m.1 = SK.cl ts k)) (hm.keep hbV) (fun args w => by simp [go_sem]) (fun m X hX _ => skip_member1 tc p k m (hT.keep hX) hk ((hX.cell (p := ⟨p, 0, none⟩) (by dsimp only; omega)).trans c0) ((hX.cell (p := ⟨p + 1, 0, none⟩) (by dsimp only; omega)).trans c4)))
  have e : SK.member ms (SK.cl ts k) = PO.idx (fun m => decide (m.1 = SK.cl ts k)) ms := rfl
  rw [e]
  generalize PO.idx (fun m => decide (m.1 = SK.cl ts k)) ms = r at *
  have HV := Lib.hid hV
  have HP := Lib.hid hp
  have HB := Lib.hid hbV
  clear hT h hm c0 c4 e hV hp hbV
  go_enter Try.func82, Try.ntmps82
  go_wp2_with fail
  rw [HV.out, HP.out]
  refine K.out.mono ?_
  rintro e w1 ⟨rfl, h1⟩
  go_wp2_with fail
  exact bodyPost_ret (v := .int .i64 r) (by simp [results, Try.results82, go_sem]) rfl ⟨rfl, bel_trans' HB.out h1 HB.out.size⟩
end Go.Proofs.Ythmjbfocpdiikaa
