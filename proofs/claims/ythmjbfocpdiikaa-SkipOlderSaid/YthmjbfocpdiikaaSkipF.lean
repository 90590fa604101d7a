/-
  The example of layer 34; fit.
-/
import Derived.Test.YthmjbfocpdiikaaSkipE
namespace Go.Proofs.Ythmjbfocpdiikaa
open Go.RowKit
set_option linter.unusedVariables false
set_option linter.unusedSimpArgs false
attribute [local go_sem] drewN_alloc drewN_setCell

def exT : List SK.Tick := [(1, 0, 5, 1, 0), (2, 1, 1, 1, 0)]
def exM : List PO.Mem := [(0, 5, 0, 5), (1, 4, 1, 1)]
theorem ex_next : SK.next exT exM 4 0 = 1 := by decide +kernel
theorem ex_why : SK.why exT exM 4 0 0 = 4 := by decide +kernel
theorem ex_may34 : SK.why exT exM 4 0 1 = 0 := by decide +kernel
theorem ex_next1 : SK.next (exT.take 1) exM 4 0 = -1 := by decide +kernel

set_option maxRecDepth 100000 in
set_option maxHeartbeats 4000000 in
theorem law34_works (w : World) : Calls Try.prog 30 #[] w fun e w' => e = .returned (.bool true) ∧ Below w.heap.size w w' := by
  have hT : Hid (∀ W : World, TickAt (W.alloc (.cells #[.int .i64 1, .int .i64 0, .int .i64 5, .int .i64 1, .int .i64 0, .int .i64 2, .int .i64 1, .int .i64 1, .int .i64 1, .int .i64 0] 51)) (some ⟨W.heap.size, 0, none⟩) 2 exT) := Lib.hid (fun W => by
    refine ⟨rfl, by omega, fun t ht => ?_, fun _ => ⟨_, 0, rfl, by simp, fun i hi => ?_⟩⟩
    · simp only [exT, List.mem_cons, List.not_mem_nil, or_false] at ht
      rcases ht with rfl | rfl <;> refine ⟨⟨?_, ?_⟩, ⟨?_, ?_⟩, ⟨?_, ?_⟩, ⟨?_, ?_⟩, ?_, ?_⟩ <;> dsimp only <;> omega
    · obtain rfl | rfl : i = 0 ∨ i = 1 := by omega
      · unfold TickCells; simp [go_sem, exT]
      · unfold TickCells; simp [go_sem, exT])
  have hM : Hid (∀ W : World, MemAt (W.alloc (.cells #[.int .i64 0, .int .i64 5, .int .i64 0, .int .i64 5, .int .i64 1, .int .i64 4, .int .i64 1, .int .i64 1] 34)) (some ⟨W.heap.size, 0, none⟩) 2 exM) := Lib.hid (fun W => by
    refine mem_of_row (World.alloc_heap_new _ _ : (W.alloc (.cells #[.int .i64 0, .int .i64 5, .int .i64 0, .int .i64 5, .int .i64 1, .int .i64 4, .int .i64 1, .int .i64 1] 34)).heap[W.heap.size]? = some (.cells (cellsM exM).toArray 34 (0, 0))) (by simp [exM]) (fun m hm => by
      simp only [exM, List.mem_cons, List.not_mem_nil, or_false] at hm
      rcases hm with rfl | rfl <;> refine ⟨⟨?_, ?_⟩, ⟨?_, ?_⟩, ⟨?_, ?_⟩, ?_, ?_⟩ <;> dsimp only <;> omega))
  obtain ⟨V, hV⟩ : ∃ V, (w.alloc (.cells #[.int .i64 1, .int .i64 0, .int .i64 5, .int .i64 1, .int .i64 0, .int .i64 2, .int .i64 1, .int .i64 1, .int .i64 1, .int .i64 0] 51)).alloc (.cells #[.int .i64 0, .int .i64 5, .int .i64 0, .int .i64 5, .int .i64 1, .int .i64 4, .int .i64 1, .int .i64 1] 34) = V := ⟨_, rfl⟩
  have hB : Below w.heap.size w V := by rw [← hV]; exact (by repeat (first | exact Below.refl _ _ | assumption | refine bel_drew ?_ | refine bel_drewN ?_ _ | refine bel_alloc ?_ _ | refine bel_set ?_ (by first | (dsimp only; omega) | (simp; done) | (simp; omega)) _ | refine bel_trans ?_ (by assumption)))
  obtain ⟨p, hp⟩ : ∃ p, w.heap.size = p := ⟨_, rfl⟩
  have h1 : TickAt V (some ⟨p, 0, none⟩) 2 exT := by rw [← hV, ← hp]; exact (hT.out w).keep (by exact (by repeat (first | exact Below.refl _ _ | assumption | refine bel_drew ?_ | refine bel_drewN ?_ _ | refine bel_alloc ?_ _ | refine bel_set ?_ (by first | (dsimp only; omega) | (simp; done) | (simp; omega)) _ | refine bel_trans ?_ (by assumption))))
  have h2 : MemAt V (some ⟨p + 1, 0, none⟩) 2 exM := by
    rw [← hV, ← hp]
    have := hM.out (w.alloc (.cells #[.int .i64 1, .int .i64 0, .int .i64 5, .int .i64 1, .int .i64 0, .int .i64 2, .int .i64 1, .int .i64 1, .int .i64 1, .int .i64 0] 51))
    have e : (w.alloc (.cells #[.int .i64 1, .int .i64 0, .int .i64 5, .int .i64 1, .int .i64 0, .int .i64 2, .int .i64 1, .int .i64 1, .int .i64 1, .int .i64 0] 51)).heap.size = w.heap.size + 1 := by simp
    rwa [e] at this
  have K1 : Hid (∀ W, Below V.heap.size V W → Calls Try.prog 34 #[.slice (some ⟨p, 0, none⟩) 2 2, .int .i64 4, .int .i64 0, .slice (some ⟨p + 1, 0, none⟩) 2 2] W fun e w' => e = .returned (.int .i64 1) ∧ Below W.heap.size W w') := Lib.hid (fun W hW => by
    rw [← ex_next]; exact skip_Next 2 2 4 0 (h1.keep hW) (h2.keep hW) (by omega) (by omega) (by omega) (by omega) (by omega))
  have K2 : Hid (∀ W, Below V.heap.size V W → Calls Try.prog 32 #[.slice (some ⟨p, 0, none⟩) 2 2, .int .i64 0, .int .i64 4, .int .i64 0, .slice (some ⟨p + 1, 0, none⟩) 2 2] W fun e w' => e = .returned (.int .i64 4) ∧ Below W.heap.size W w') := Lib.hid (fun W hW => by
    have := skip_Why 2 2 4 0 0 (h1.keep hW) (h2.keep hW) (by omega) (by omega) (by omega) (by omega) (by omega)
    rwa [ex_why] at this)
  have K3 : Hid (∀ W, Below V.heap.size V W → Calls Try.prog 33 #[.slice (some ⟨p, 0, none⟩) 2 2, .int .i64 1, .int .i64 4, .int .i64 0, .slice (some ⟨p + 1, 0, none⟩) 2 2] W fun e w' => e = .returned (.bool true) ∧ Below W.heap.size W w') := Lib.hid (fun W hW => by
    have := skip_May 2 2 4 0 1 (h1.keep hW) (h2.keep hW) (by omega) (by omega) (by omega) (by omega) (by omega)
    rwa [ex_may34] at this)
  have K4 : Hid (∀ W, Below V.heap.size V W → Calls Try.prog 34 #[.slice (some ⟨p, 0, none⟩) 1 2, .int .i64 4, .int .i64 0, .slice (some ⟨p + 1, 0, none⟩) 2 2] W fun e w' => e = .returned (.int .i64 (-1)) ∧ Below W.heap.size W w') := Lib.hid (fun W hW => by
    rw [← ex_next1]; exact skip_Next 2 2 4 0 ((h1.take (by omega)).keep hW) (h2.keep hW) (by omega) (by omega) (by omega) (by omega) (by omega))
  have HV := Lib.hid hV
  have HP := Lib.hid hp
  have HB := Lib.hid hB
  clear hT hM hV hp hB h1 h2
  go_enter Try.func30, Try.ntmps30
  go_wp2_with fail
  rw [HV.out, HP.out]
  refine (K1.out _ (Below.refl _ _)).mono ?_
  rintro e w1 ⟨rfl, d1⟩
  go_wp2_with fail
  refine (K2.out _ d1).mono ?_
  rintro e w2 ⟨rfl, d2⟩
  have t2 := bel_trans d1 d2
  go_wp2_with fail
  refine (K3.out _ t2).mono ?_
  rintro e w3 ⟨rfl, d3⟩
  have t3 := bel_trans t2 d3
  go_wp2_with fail
  refine (K4.out _ t3).mono ?_
  rintro e w4 ⟨rfl, d4⟩
  go_wp2_with fail
  exact bodyPost_ret (v := .bool true) (by simp [results, Try.results30, go_sem]) rfl ⟨rfl, bel_trans' HB.out (bel_trans t3 d4) HB.out.size⟩

namespace SK
open PO
def cnt (ts : List Tick) (k : Nat) : Int := (ts.getD k t0).2.2.1
def tsum (ts : List Tick) (id : Int) : Nat → Int
  | 0 => 0
  | k + 1 => if cl ts k = id then tsum ts id k + cnt ts k else tsum ts id k
def FitM (ts : List Tick) (ms : List Mem) (i : Nat) : Prop :=
  member ms (ms.getD i m0).1 = (i : Int) ∧ (∀ k, k < ts.length → cl ts k = (ms.getD i m0).1 → 1 ≤ cnt ts k ∧ cnt ts k ≤ 1048576) ∧
  tsum ts (ms.getD i m0).1 ts.length = (ms.getD i m0).2.2.2 ∧ ((∃ k, k < ts.length ∧ cl ts k = (ms.getD i m0).1) ∨ (ms.getD i m0).2.2.1 ≤ 0)
def Fit (ts : List Tick) (ms : List Mem) : Prop := (∀ i, i < ms.length → FitM ts ms i) ∧ (∀ k, k < ts.length → 0 ≤ member ms (cl ts k)) ∧ 0 < ts.length
theorem tsum_bd {ts : List Tick} {id : Int} : ∀ {k : Nat}, (∀ j, j < k → cl ts j = id → 1 ≤ cnt ts j ∧ cnt ts j ≤ 1048576) → 0 ≤ tsum ts id k ∧ tsum ts id k ≤ 1048576 * (k : Int)
  | 0, _ => ⟨by simp [tsum], by simp [tsum]⟩
  | k + 1, h => by
    have ih := tsum_bd (k := k) (fun j hj => h j (by omega))
    unfold tsum
    split
    · have := h k (by omega) ‹_›
      omega
    · omega
end SK

def GivesFit (ts : List SK.Tick) (ms : List PO.Mem) (w : World) (e : Ending) (w' : World) : Prop := ∃ r, e = .returned (.bool r) ∧ (r = true → SK.Fit ts ms) ∧ Below w.heap.size w w'
theorem givesFit_false {ts : List SK.Tick} {ms : List PO.Mem} {w w' : World} (h : Below w.heap.size w w') : GivesFit ts ms w (.returned (.bool false)) w' := ⟨false, rfl, nofun, h⟩
def FitRel (V : World) (ts : List SK.Tick) (ms : List PO.Mem) (i : Value) (wr : World) : Prop :=
  ∃ j : Nat, j ≤ ms.length ∧ i = .int .i64 j ∧ (∀ i', i' < j → SK.FitM ts ms i') ∧ Below V.heap.size V wr
def FitIn (V : World) (ts : List SK.Tick) (id : Int) (sum has k : Value) (wr : World) : Prop :=
  ∃ (kk : Nat) (b : Bool), kk ≤ ts.length ∧ k = .int .i64 kk ∧ sum = .int .i64 (SK.tsum ts id kk) ∧ has = .bool b ∧ (b = true → ∃ k', k' < kk ∧ SK.cl ts k' = id) ∧ (∀ k', k' < kk → SK.cl ts k' = id → 1 ≤ SK.cnt ts k' ∧ SK.cnt ts k' ≤ 1048576) ∧ Below V.heap.size V wr
def FitEnd (V : World) (ts : List SK.Tick) (ms : List PO.Mem) (i : Value) (wr : World) : Prop :=
  ∃ j : Nat, j ≤ ts.length ∧ i = .int .i64 j ∧ (∀ i', i' < j → 0 ≤ SK.member ms (SK.cl ts i')) ∧ Below V.heap.size V wr

set_option maxRecDepth 100000 in
set_option maxHeartbeats 16000000 in
theorem law34_fit {TA MA : Option Addr} {tn mn : Nat} {ts : List SK.Tick} {ms : List PO.Mem} (tc mc : Nat) (f wt : Int) {w : World} (h : TickAt w TA tn ts) (hm : MemAt w MA mn ms) (hn : mn ≤ 1000) (htn : tn ≤ 1000) :
    Calls Try.prog 36 #[.agg #[.slice TA tn tc, .int .i64 f, .int .i64 wt, .slice MA mn mc]] w fun e w' => GivesFit ts ms w e w' := by
  obtain ⟨p, hp⟩ : ∃ p, w.heap.size = p := ⟨_, rfl⟩
  obtain ⟨V, hV⟩ : ∃ V, w.alloc (.cells #[.slice TA tn tc, .int .i64 f, .int .i64 wt, .slice MA mn mc] 45) = V := ⟨_, rfl⟩
  have hbV : Below w.heap.size w V := by rw [← hV]; exact (by repeat (first | exact Below.refl _ _ | assumption | refine bel_drew ?_ | refine bel_drewN ?_ _ | refine bel_alloc ?_ _ | refine bel_set ?_ (by first | (dsimp only; omega) | (simp; done) | (simp; omega)) _ | refine bel_trans ?_ (by assumption)))
  have sV : p < V.heap.size := by rw [← hV, ← hp]; simp
  have c0 : V.cell? ⟨p, 0, none⟩ = some (.slice TA tn tc) := by rw [← hV, ← hp]; simp [go_sem]
  have c3 : V.cell? ⟨p, 3, none⟩ = some (.slice MA mn mc) := by rw [← hV, ← hp]; simp [go_sem]
  have hT := h.keep hbV
  have hM := hm.keep hbV
  have KM : Hid (∀ id W, Below V.heap.size V W → Calls Try.prog 63 #[.slice MA mn mc, .int .i64 id] W fun e w' => e = .returned (.int .i64 (SK.member ms id)) ∧ Below W.heap.size W w') := Lib.hid (fun id W hW => ref34_Member mc id (hM.keep hW))
  have HA : Hid (∀ W : World, Below V.heap.size V W → W.cell? ⟨p, 0, none⟩ = some (.slice TA tn tc) ∧ W.cell? ⟨p, 3, none⟩ = some (.slice MA mn mc)) := Lib.hid (fun W hW => ⟨(hW.cell sV).trans c0, (hW.cell sV).trans c3⟩)
  have HT := Lib.hid hT.2.2.2
  have HM := Lib.hid hM.2.2.2
  have HTL := Lib.hid h.1
  have HML := Lib.hid hm.1
  have HV := Lib.hid hV
  have HP := Lib.hid hp
  have HB := Lib.hid hbV
  have hbe : ∀ X, Below V.heap.size V X → Below w.heap.size w X := fun X hX => bel_trans' HB.out hX HB.out.size
  have HBE := Lib.hid hbe
  clear hT hM h hm c0 c3 hV hp hbV hbe
  go_enter Try.func36, Try.ntmps36
  go_wp2_with fail
  rw [HV.out, HP.out]
  go_loopw [3] (fun i wr => FitRel V ts ms i wr) (fun i _ => mn - (intOf i).toNat)
  case atStart => exact ⟨0, Nat.zero_le _, rfl, fun j hj => absurd hj (by omega), Below.refl _ _⟩
  case round =>
    obtain ⟨j, hj, rfl, hdone, hbel⟩ := hrel
    rw [HML.out] at hj
    have HD := Lib.hid hdone
    clear hdone
    obtain ⟨d0, d3⟩ := HA.out wr hbel
    have j1 : (0 : Int) ≤ (j : Int) := by omega
    by_cases hlt : (j : Int) < mn
    · have j2 : (j : Int) < (mn : Int) := hlt
      obtain ⟨b', off', rfl, hb', hcm⟩ := HM.out (by omega)
      have HX : Hid (∀ W, Below V.heap.size V W → MemCells W b' (off' + j * 4) (ms.getD j PO.m0)) := Lib.hid (fun W hW => (hcm j (by omega)).keep hW hb')
      clear hcm
      obtain ⟨m, hmm⟩ : ∃ m, ms.getD j PO.m0 = m := ⟨_, rfl⟩
      rw [hmm] at HX
      replace hmm := Lib.hid hmm
      obtain ⟨r, hr⟩ : ∃ r, SK.member ms m.1 = r := ⟨_, rfl⟩
      have K1 := KM.out m.1
      rw [hr] at K1
      replace K1 := Lib.hid K1
      replace hr := Lib.hid hr
      have hS : Hid (∀ W : World, Below V.heap.size V W → (fun W : World => W.cell? ⟨p, 0, none⟩ = some (.slice TA tn tc) ∧ W.cell? ⟨p, 3, none⟩ = some (.slice (some ⟨b', off', none⟩) mn mc) ∧ W.cell? ⟨b', off' + j * 4, none⟩ = some (.int .i64 m.1)) W) := Lib.hid (fun W hW => ⟨(HA.out W hW).1, (HA.out W hW).2, (HX.out W hW).1⟩)
      by_cases hrj : r = (j : Int)
      · have q1 : (r == (j : Int)) = true := by simpa using hrj
        have HR : Hid (SK.member ms m.1 = (j : Int)) := Lib.hid (hr.out.trans hrj)
        clear hrj hr
        go_wp2_with fail
        refine wp_region_held_drew (S := (fun W : World => W.cell? ⟨p, 0, none⟩ = some (.slice TA tn tc) ∧ W.cell? ⟨p, 3, none⟩ = some (.slice (some ⟨b', off', none⟩) mn mc) ∧ W.cell? ⟨b', off' + j * 4, none⟩ = some (.int .i64 m.1))) (by kernel_rfl) ?_ (fun hHeld => ?_)
        focus ((try dsimp only); exact hS.out _ (by repeat (first | exact Below.refl _ _ | assumption | refine bel_drew ?_ | refine bel_trans ?_ (by assumption))))
        refine tk_yes 0 (v := ?_) rfl (by kernel_rfl) (by kernel_rfl) (by kernel_rfl) (fun _ _ _ h => h) (by kernel_rfl) (by assumption) ?_ ?_; rotate_left; (focus (intro w hSw; (try dsimp only at hSw); go_simp; (first | done | (with_reducible rfl)))); (try simp only [Act.put, List.setIfInBounds_toArray, List.set_cons_zero, List.set_cons_succ])
        refine tk_yes 1 (v := ?_) rfl (by kernel_rfl) (by kernel_rfl) (by kernel_rfl) (fun _ _ _ h => h) (by kernel_rfl) (by assumption) ?_ ?_; rotate_left; (focus (intro w hSw; (try dsimp only at hSw); go_simp; (first | done | (with_reducible rfl)))); (try simp only [Act.put, List.setIfInBounds_toArray, List.set_cons_zero, List.set_cons_succ])
        refine tk_yes 2 (v := ?_) rfl (by kernel_rfl) (by kernel_rfl) (by kernel_rfl) (fun _ _ _ h => h) (by kernel_rfl) (by assumption) ?_ ?_; rotate_left; (focus (intro w hSw; (try dsimp only at hSw); go_simp; (first | done | (with_reducible rfl)))); (try simp only [Act.put, List.setIfInBounds_toArray, List.set_cons_zero, List.set_cons_succ])
        refine tk_yes 3 (v := ?_) rfl (by kernel_rfl) (by kernel_rfl) (by kernel_rfl) (fun _ _ _ h => h) (by kernel_rfl) (by assumption) ?_ ?_; rotate_left; (focus (intro w hSw; (try dsimp only at hSw); go_simp; (first | done | (with_reducible rfl)))); (try simp only [Act.put, List.setIfInBounds_toArray, List.set_cons_zero, List.set_cons_succ])
        refine tk_yes 4 (v := ?_) rfl (by kernel_rfl) (by kernel_rfl) (by kernel_rfl) (fun _ _ _ h => h) (by kernel_rfl) (by assumption) ?_ ?_; rotate_left; (focus (intro w hSw; (try dsimp only at hSw); go_simp; (first | done | (with_reducible rfl)))); (try simp only [Act.put, List.setIfInBounds_toArray, List.set_cons_zero, List.set_cons_succ])
        refine tk_yes 5 (v := ?_) rfl (by kernel_rfl) (by kernel_rfl) (by kernel_rfl) (fun _ _ _ h => h) (by kernel_rfl) (by assumption) ?_ ?_; rotate_left; (focus (intro w hSw; (try dsimp only at hSw); go_simp; (first | done | (with_reducible rfl)))); (try simp only [Act.put, List.setIfInBounds_toArray, List.set_cons_zero, List.set_cons_succ])
        refine tk_yes 6 (v := ?_) rfl (by kernel_rfl) (by kernel_rfl) (by kernel_rfl) (fun _ _ _ h => h) (by kernel_rfl) (by assumption) ?_ ?_; rotate_left; (focus (intro w hSw; (try dsimp only at hSw); go_simp; (first | done | (with_reducible rfl)))); (try simp only [Act.put, List.setIfInBounds_toArray, List.set_cons_zero, List.set_cons_succ])
        refine tk_yes 7 (v := ?_) rfl (by kernel_rfl) (by kernel_rfl) (by kernel_rfl) (fun _ _ _ h => h) (by kernel_rfl) (by assumption) ?_ ?_; rotate_left; (focus (intro w hSw; (try dsimp only at hSw); go_simp; (first | done | (with_reducible rfl)))); (try simp only [Act.put, List.setIfInBounds_toArray, List.set_cons_zero, List.set_cons_succ])
        refine tk_yes 9 (v := ?_) rfl (by kernel_rfl) (by kernel_rfl) (by kernel_rfl) (fun _ _ _ h => h) (by kernel_rfl) (by assumption) ?_ ?_; rotate_left; (focus (intro w hSw; (try dsimp only at hSw); go_simp; (first | done | (with_reducible rfl)))); (try simp only [Act.put, List.setIfInBounds_toArray, List.set_cons_zero, List.set_cons_succ])
        refine tk_call 8 rfl (by kernel_rfl) (by kernel_rfl) (fun KW hKW => ?_); go_simp; go_at_call 63; refine (K1.out _ (by repeat (first | exact Below.refl _ _ | assumption | refine bel_drew ?_ | refine bel_trans ?_ (by assumption)))).mono ?_; rintro e u1 ⟨rfl, z1⟩; have t1 := bel_trans (bel_drew hbel) z1; refine hKW.out _ _ ?_ (fun hHeld => ?_); (focus ((try dsimp only); exact hS.out _ (by repeat (first | exact Below.refl _ _ | assumption | refine bel_drew ?_ | refine bel_trans ?_ (by assumption))))); clear hKW KW; (try simp only [Act.put, List.setIfInBounds_toArray, List.set_cons_zero, List.set_cons_succ])
        refine tk_yes 10 (v := ?_) rfl (by kernel_rfl) (by kernel_rfl) (by kernel_rfl) (fun _ _ _ h => h) (by kernel_rfl) (by assumption) ?_ ?_; rotate_left; (focus (intro w hSw; (try dsimp only at hSw); go_simp; (first | done | (with_reducible rfl)))); (try simp only [Act.put, List.setIfInBounds_toArray, List.set_cons_zero, List.set_cons_succ])
        refine wpAnyH_done (by kernel_rfl) ?_ _
        go_wp2_with fail
        go_loopw [4, 5, 6] (fun sum has k wr => FitIn V ts m.1 sum has k wr) (fun _ _ k _ => tn - (intOf k).toNat)
        case atStart => exact ⟨0, false, Nat.zero_le _, rfl, rfl, rfl, nofun, fun k hk => absurd hk (by omega), by exact (by repeat (first | exact Below.refl _ _ | assumption | refine bel_drew ?_ | refine bel_trans ?_ (by assumption)))⟩
        case round =>
          obtain ⟨k, b, hk, rfl, rfl, rfl, hb1, hall, hbel2⟩ := hrel
          rw [HTL.out] at hk
          have HALL := Lib.hid hall
          have HB1 := Lib.hid hb1
          have hsb := SK.tsum_bd hall
          clear hall hb1 d0 d3
          obtain ⟨d0, d3⟩ := HA.out _ hbel2
          obtain ⟨y0, y1, y2, y3⟩ := HX.out _ hbel2
          have k1 : (0 : Int) ≤ (k : Int) := by omega
          by_cases hlt2 : (k : Int) < tn
          · have k2 : (k : Int) < (tn : Int) := hlt2
            obtain ⟨b0, off, rfl, hb0, hct⟩ := HT.out (by omega)
            obtain ⟨x0, x1, x2, x3, x4⟩ := (hct k (by omega)).keep hbel2 hb0
            obtain ⟨t, ht⟩ : ∃ t, ts.getD k SK.t0 = t := ⟨_, rfl⟩
            rw [ht] at x0 x1 x2 x3 x4
            have HC : Hid (SK.cl ts k = t.2.1) := Lib.hid (by rw [← ht]; rfl)
            have HN : Hid (SK.cnt ts k = t.2.2.1) := Lib.hid (by rw [← ht]; rfl)
            clear ht hct
            by_cases hq : t.2.1 = m.1
            · have q2 : (t.2.1 == m.1) = true := by simpa using hq
              by_cases hc1 : t.2.2.1 < 1
              · have q3 : decide (t.2.2.1 < 1) = true := decide_eq_true hc1
                clear hq
                go_wp2_with fail
                go_quiet (fail)
                go_wp2_with fail
                go_ret
                exact givesFit_false (HBE.out _ (by exact (by repeat (first | exact Below.refl _ _ | assumption | refine bel_drew ?_ | refine bel_drewN ?_ _ | refine bel_alloc ?_ _ | refine bel_set ?_ (by first | (dsimp only; omega) | (simp; done) | (simp; omega)) _ | refine bel_trans ?_ (by assumption)))))
              · have q3 : decide (t.2.2.1 < 1) = false := decide_eq_false hc1
                by_cases hc2 : 1048576 < t.2.2.1
                · have q4 : decide (1048576 < t.2.2.1) = true := decide_eq_true hc2
                  clear hq
                  go_wp2_with fail
                  go_quiet (fail)
                  go_wp2_with fail
                  go_ret
                  exact givesFit_false (HBE.out _ (by exact (by repeat (first | exact Below.refl _ _ | assumption | refine bel_drew ?_ | refine bel_drewN ?_ _ | refine bel_alloc ?_ _ | refine bel_set ?_ (by first | (dsimp only; omega) | (simp; done) | (simp; omega)) _ | refine bel_trans ?_ (by assumption)))))
                · have q4 : decide (1048576 < t.2.2.1) = false := decide_eq_false hc2
                  have HE : Hid (SK.tsum ts m.1 (k + 1) = SK.tsum ts m.1 k + t.2.2.1) := Lib.hid (by
                    show (if SK.cl ts k = m.1 then _ else _) = _
                    rw [HC.out, HN.out, if_pos hq])
                  have HE2 : Hid (∃ k', k' < k + 1 ∧ SK.cl ts k' = m.1) := Lib.hid ⟨k, by omega, HC.out.trans hq⟩
                  have HE3 : Hid (∀ k', k' < k + 1 → SK.cl ts k' = m.1 → 1 ≤ SK.cnt ts k' ∧ SK.cnt ts k' ≤ 1048576) := Lib.hid (fun k' h' he => by
                    rcases Nat.lt_or_ge k' k with h1 | h1
                    · exact HALL.out k' h1 he
                    · obtain rfl : k' = k := by omega
                      rw [HN.out]; omega)
                  generalize SK.tsum ts m.1 k = sm at *
                  have wf : IntKind.i64.wrap (sm + t.2.2.1) = sm + t.2.2.1 := IntWalk.i64_in _ (by omega)
                  clear hq hc1 hc2
                  go_wp2_with fail
                  go_quiet (fail)
                  go_wp2_with fail
                  go_roundw
                  case rel => exact ⟨k + 1, true, by rw [HTL.out]; omega, by go_num, by rw [HE.out], rfl, fun _ => HE2.out, HE3.out, (by repeat (first | exact Below.refl _ _ | assumption | refine bel_drew ?_ | refine bel_drewN ?_ _ | refine bel_alloc ?_ _ | refine bel_set ?_ (by first | (dsimp only; omega) | (simp; done) | (simp; omega)) _ | refine bel_trans ?_ (by assumption)))⟩
                  case measure => simp [intOf]; omega
            · have q2 : (t.2.1 == m.1) = false := by simpa using hq
              have HE : Hid (SK.tsum ts m.1 (k + 1) = SK.tsum ts m.1 k) := Lib.hid (by
                show (if SK.cl ts k = m.1 then _ else _) = _
                rw [HC.out, if_neg hq])
              have HE3 : Hid (∀ k', k' < k + 1 → SK.cl ts k' = m.1 → 1 ≤ SK.cnt ts k' ∧ SK.cnt ts k' ≤ 1048576) := Lib.hid (fun k' h' he => by
                rcases Nat.lt_or_ge k' k with h1 | h1
                · exact HALL.out k' h1 he
                · obtain rfl : k' = k := by omega
                  exact absurd (HC.out.symm.trans he) hq)
              have HB2 : Hid (b = true → ∃ k', k' < k + 1 ∧ SK.cl ts k' = m.1) := Lib.hid (fun hb => by
                obtain ⟨k', h1, h2⟩ := HB1.out hb
                exact ⟨k', by omega, h2⟩)
              generalize SK.tsum ts m.1 k = sm at *
              clear hq
              go_wp2_with fail
              go_quiet (fail)
              go_wp2_with fail
              go_roundw
              case rel => exact ⟨k + 1, b, by rw [HTL.out]; omega, by go_num, by rw [HE.out], rfl, HB2.out, HE3.out, (by repeat (first | exact Below.refl _ _ | assumption | refine bel_drew ?_ | refine bel_drewN ?_ _ | refine bel_alloc ?_ _ | refine bel_set ?_ (by first | (dsimp only; omega) | (simp; done) | (simp; omega)) _ | refine bel_trans ?_ (by assumption)))⟩
              case measure => simp [intOf]; omega
          · obtain rfl : k = tn := by omega
            have HSM2 : Hid (SK.tsum ts m.1 k = m.2.2.2 → SK.tsum ts m.1 ts.length = m.2.2.2) := Lib.hid (fun h1 => by rw [HTL.out, h1])
            generalize SK.tsum ts m.1 k = sm at *
            by_cases hs : sm = m.2.2.2
            · have q3 : (sm == m.2.2.2) = true := by simpa using hs
              have HS3 := Lib.hid (HSM2.out hs)
              clear HSM2
              by_cases hf : (b = true ∨ m.2.2.1 ≤ 0)
              · have HF : Hid (∀ i', i' < j + 1 → SK.FitM ts ms i') := Lib.hid (fun i' h' => by
                  rcases Nat.lt_or_ge i' j with h1 | h1
                  · exact HD.out i' h1
                  · obtain rfl : i' = j := by omega
                    unfold SK.FitM
                    rw [hmm.out, HTL.out]
                    refine ⟨HR.out, HALL.out, by rw [← HTL.out]; exact HS3.out, ?_⟩
                    rcases hf with hf | hf
                    · exact .inl (HB1.out hf)
                    · exact .inr hf)
                rcases b with _ | _
                · have q4 : decide (0 < m.2.2.1) = false := decide_eq_false (by rcases hf with hf | hf; (exact absurd hf (by simp)); omega)
                  clear hf
                  go_wp2_with fail
                  go_roundw
                  case rel => exact ⟨j + 1, by rw [HML.out]; omega, by go_num, HF.out, by exact (by repeat (first | exact Below.refl _ _ | assumption | refine bel_drew ?_ | refine bel_trans ?_ (by assumption)))⟩
                  case measure => simp [intOf]; omega
                · clear hf
                  go_wp2_with fail
                  go_roundw
                  case rel => exact ⟨j + 1, by rw [HML.out]; omega, by go_num, HF.out, by exact (by repeat (first | exact Below.refl _ _ | assumption | refine bel_drew ?_ | refine bel_trans ?_ (by assumption)))⟩
                  case measure => simp [intOf]; omega
              · obtain rfl : b = false := by rcases b with _ | _; rfl; exact absurd (.inl rfl) hf
                have q4 : decide (0 < m.2.2.1) = true := decide_eq_true (by rcases Int.lt_or_le 0 m.2.2.1 with h | h; exact h; exact absurd (.inr h) hf)
                clear hf
                go_wp2_with fail
                go_ret
                exact givesFit_false (HBE.out _ (by exact (by repeat (first | exact Below.refl _ _ | assumption | refine bel_drew ?_ | refine bel_drewN ?_ _ | refine bel_alloc ?_ _ | refine bel_set ?_ (by first | (dsimp only; omega) | (simp; done) | (simp; omega)) _ | refine bel_trans ?_ (by assumption)))))
            · have q3 : (sm == m.2.2.2) = false := by simpa using hs
              go_wp2_with fail
              go_ret
              exact givesFit_false (HBE.out _ (by exact (by repeat (first | exact Below.refl _ _ | assumption | refine bel_drew ?_ | refine bel_drewN ?_ _ | refine bel_alloc ?_ _ | refine bel_set ?_ (by first | (dsimp only; omega) | (simp; done) | (simp; omega)) _ | refine bel_trans ?_ (by assumption)))))
      · have q1 : (r == (j : Int)) = false := by simpa using hrj
        clear hrj hr
        go_wp2_with fail
        refine wp_region_held_drew (S := (fun W : World => W.cell? ⟨p, 0, none⟩ = some (.slice TA tn tc) ∧ W.cell? ⟨p, 3, none⟩ = some (.slice (some ⟨b', off', none⟩) mn mc) ∧ W.cell? ⟨b', off' + j * 4, none⟩ = some (.int .i64 m.1))) (by kernel_rfl) ?_ (fun hHeld => ?_)
        focus ((try dsimp only); exact hS.out _ (by repeat (first | exact Below.refl _ _ | assumption | refine bel_drew ?_ | refine bel_trans ?_ (by assumption))))
        refine tk_yes 0 (v := ?_) rfl (by kernel_rfl) (by kernel_rfl) (by kernel_rfl) (fun _ _ _ h => h) (by kernel_rfl) (by assumption) ?_ ?_; rotate_left; (focus (intro w hSw; (try dsimp only at hSw); go_simp; (first | done | (with_reducible rfl)))); (try simp only [Act.put, List.setIfInBounds_toArray, List.set_cons_zero, List.set_cons_succ])
        refine tk_yes 1 (v := ?_) rfl (by kernel_rfl) (by kernel_rfl) (by kernel_rfl) (fun _ _ _ h => h) (by kernel_rfl) (by assumption) ?_ ?_; rotate_left; (focus (intro w hSw; (try dsimp only at hSw); go_simp; (first | done | (with_reducible rfl)))); (try simp only [Act.put, List.setIfInBounds_toArray, List.set_cons_zero, List.set_cons_succ])
        refine tk_yes 2 (v := ?_) rfl (by kernel_rfl) (by kernel_rfl) (by kernel_rfl) (fun _ _ _ h => h) (by kernel_rfl) (by assumption) ?_ ?_; rotate_left; (focus (intro w hSw; (try dsimp only at hSw); go_simp; (first | done | (with_reducible rfl)))); (try simp only [Act.put, List.setIfInBounds_toArray, List.set_cons_zero, List.set_cons_succ])
        refine tk_yes 3 (v := ?_) rfl (by kernel_rfl) (by kernel_rfl) (by kernel_rfl) (fun _ _ _ h => h) (by kernel_rfl) (by assumption) ?_ ?_; rotate_left; (focus (intro w hSw; (try dsimp only at hSw); go_simp; (first | done | (with_reducible rfl)))); (try simp only [Act.put, List.setIfInBounds_toArray, List.set_cons_zero, List.set_cons_succ])
        refine tk_yes 4 (v := ?_) rfl (by kernel_rfl) (by kernel_rfl) (by kernel_rfl) (fun _ _ _ h => h) (by kernel_rfl) (by assumption) ?_ ?_; rotate_left; (focus (intro w hSw; (try dsimp only at hSw); go_simp; (first | done | (with_reducible rfl)))); (try simp only [Act.put, List.setIfInBounds_toArray, List.set_cons_zero, List.set_cons_succ])
        refine tk_yes 5 (v := ?_) rfl (by kernel_rfl) (by kernel_rfl) (by kernel_rfl) (fun _ _ _ h => h) (by kernel_rfl) (by assumption) ?_ ?_; rotate_left; (focus (intro w hSw; (try dsimp only at hSw); go_simp; (first | done | (with_reducible rfl)))); (try simp only [Act.put, List.setIfInBounds_toArray, List.set_cons_zero, List.set_cons_succ])
        refine tk_yes 6 (v := ?_) rfl (by kernel_rfl) (by kernel_rfl) (by kernel_rfl) (fun _ _ _ h => h) (by kernel_rfl) (by assumption) ?_ ?_; rotate_left; (focus (intro w hSw; (try dsimp only at hSw); go_simp; (first | done | (with_reducible rfl)))); (try simp only [Act.put, List.setIfInBounds_toArray, List.set_cons_zero, List.set_cons_succ])
        refine tk_yes 7 (v := ?_) rfl (by kernel_rfl) (by kernel_rfl) (by kernel_rfl) (fun _ _ _ h => h) (by kernel_rfl) (by assumption) ?_ ?_; rotate_left; (focus (intro w hSw; (try dsimp only at hSw); go_simp; (first | done | (with_reducible rfl)))); (try simp only [Act.put, List.setIfInBounds_toArray, List.set_cons_zero, List.set_cons_succ])
        refine tk_yes 9 (v := ?_) rfl (by kernel_rfl) (by kernel_rfl) (by kernel_rfl) (fun _ _ _ h => h) (by kernel_rfl) (by assumption) ?_ ?_; rotate_left; (focus (intro w hSw; (try dsimp only at hSw); go_simp; (first | done | (with_reducible rfl)))); (try simp only [Act.put, List.setIfInBounds_toArray, List.set_cons_zero, List.set_cons_succ])
        refine tk_call 8 rfl (by kernel_rfl) (by kernel_rfl) (fun KW hKW => ?_); go_simp; go_at_call 63; refine (K1.out _ (by repeat (first | exact Below.refl _ _ | assumption | refine bel_drew ?_ | refine bel_trans ?_ (by assumption)))).mono ?_; rintro e u1 ⟨rfl, z1⟩; have t1 := bel_trans (bel_drew hbel) z1; refine hKW.out _ _ ?_ (fun hHeld => ?_); (focus ((try dsimp only); exact hS.out _ (by repeat (first | exact Below.refl _ _ | assumption | refine bel_drew ?_ | refine bel_trans ?_ (by assumption))))); clear hKW KW; (try simp only [Act.put, List.setIfInBounds_toArray, List.set_cons_zero, List.set_cons_succ])
        refine tk_yes 10 (v := ?_) rfl (by kernel_rfl) (by kernel_rfl) (by kernel_rfl) (fun _ _ _ h => h) (by kernel_rfl) (by assumption) ?_ ?_; rotate_left; (focus (intro w hSw; (try dsimp only at hSw); go_simp; (first | done | (with_reducible rfl)))); (try simp only [Act.put, List.setIfInBounds_toArray, List.set_cons_zero, List.set_cons_succ])
        refine wpAnyH_done (by kernel_rfl) ?_ _
        go_wp2_with fail
        go_ret
        exact givesFit_false (HBE.out _ (by exact (by repeat (first | exact Below.refl _ _ | assumption | refine bel_drew ?_ | refine bel_trans ?_ (by assumption)))))
    · have HF : Hid (∀ i', i' < ms.length → SK.FitM ts ms i') := Lib.hid (fun i' h' => HD.out i' (by rw [HML.out] at h'; omega))
      clear HD
      go_wp2_with fail
      go_loopw [7] (fun i wr => FitEnd V ts ms i wr) (fun i _ => tn - (intOf i).toNat)
      case atStart => exact ⟨0, Nat.zero_le _, rfl, fun j hj => absurd hj (by omega), hbel⟩
      case round =>
        obtain ⟨k, hk, rfl, hdone, hbel2⟩ := hrel
        rw [HTL.out] at hk
        have HD := Lib.hid hdone
        clear hdone d0 d3
        obtain ⟨d0, d3⟩ := HA.out _ hbel2
        have k1 : (0 : Int) ≤ (k : Int) := by omega
        by_cases hlt2 : (k : Int) < tn
        · have k2 : (k : Int) < (tn : Int) := hlt2
          obtain ⟨b0, off, rfl, hb0, hct⟩ := HT.out (by omega)
          have HX : Hid (∀ W, Below V.heap.size V W → TickCells W b0 (off + k * 5) (ts.getD k SK.t0)) := Lib.hid (fun W hW => (hct k (by omega)).keep hW hb0)
          obtain ⟨t, ht⟩ : ∃ t, ts.getD k SK.t0 = t := ⟨_, rfl⟩
          rw [ht] at HX
          have HC : Hid (SK.cl ts k = t.2.1) := Lib.hid (by rw [← ht]; rfl)
          clear ht hct
          obtain ⟨r, hr⟩ : ∃ r, SK.member ms t.2.1 = r := ⟨_, rfl⟩
          have K1 := KM.out t.2.1
          rw [hr] at K1
          replace K1 := Lib.hid K1
          replace hr := Lib.hid hr
          have hS : Hid (∀ W : World, Below V.heap.size V W → (fun W : World => W.cell? ⟨p, 0, none⟩ = some (.slice (some ⟨b0, off, none⟩) tn tc) ∧ W.cell? ⟨p, 3, none⟩ = some (.slice MA mn mc) ∧ W.cell? ⟨b0, off + k * 5 + 1, none⟩ = some (.int .i64 t.2.1)) W) := Lib.hid (fun W hW => ⟨(HA.out W hW).1, (HA.out W hW).2, (HX.out W hW).2.1⟩)
          by_cases hr0 : r < 0
          · have q3 : decide (r < 0) = true := decide_eq_true hr0
            go_wp2_with fail
            refine wp_region_held_drew (S := (fun W : World => W.cell? ⟨p, 0, none⟩ = some (.slice (some ⟨b0, off, none⟩) tn tc) ∧ W.cell? ⟨p, 3, none⟩ = some (.slice MA mn mc) ∧ W.cell? ⟨b0, off + k * 5 + 1, none⟩ = some (.int .i64 t.2.1))) (by kernel_rfl) ?_ (fun hHeld => ?_)
            focus ((try dsimp only); exact hS.out _ (by repeat (first | exact Below.refl _ _ | assumption | refine bel_drew ?_ | refine bel_trans ?_ (by assumption))))
            refine tk_yes 0 (v := ?_) rfl (by kernel_rfl) (by kernel_rfl) (by kernel_rfl) (fun _ _ _ h => h) (by kernel_rfl) (by assumption) ?_ ?_; rotate_left; (focus (intro w hSw; (try dsimp only at hSw); go_simp; (first | done | (with_reducible rfl)))); (try simp only [Act.put, List.setIfInBounds_toArray, List.set_cons_zero, List.set_cons_succ])
            refine tk_yes 1 (v := ?_) rfl (by kernel_rfl) (by kernel_rfl) (by kernel_rfl) (fun _ _ _ h => h) (by kernel_rfl) (by assumption) ?_ ?_; rotate_left; (focus (intro w hSw; (try dsimp only at hSw); go_simp; (first | done | (with_reducible rfl)))); (try simp only [Act.put, List.setIfInBounds_toArray, List.set_cons_zero, List.set_cons_succ])
            refine tk_yes 2 (v := ?_) rfl (by kernel_rfl) (by kernel_rfl) (by kernel_rfl) (fun _ _ _ h => h) (by kernel_rfl) (by assumption) ?_ ?_; rotate_left; (focus (intro w hSw; (try dsimp only at hSw); go_simp; (first | done | (with_reducible rfl)))); (try simp only [Act.put, List.setIfInBounds_toArray, List.set_cons_zero, List.set_cons_succ])
            refine tk_yes 3 (v := ?_) rfl (by kernel_rfl) (by kernel_rfl) (by kernel_rfl) (fun _ _ _ h => h) (by kernel_rfl) (by assumption) ?_ ?_; rotate_left; (focus (intro w hSw; (try dsimp only at hSw); go_simp; (first | done | (with_reducible rfl)))); (try simp only [Act.put, List.setIfInBounds_toArray, List.set_cons_zero, List.set_cons_succ])
            refine tk_yes 4 (v := ?_) rfl (by kernel_rfl) (by kernel_rfl) (by kernel_rfl) (fun _ _ _ h => h) (by kernel_rfl) (by assumption) ?_ ?_; rotate_left; (focus (intro w hSw; (try dsimp only at hSw); go_simp; (first | done | (with_reducible rfl)))); (try simp only [Act.put, List.setIfInBounds_toArray, List.set_cons_zero, List.set_cons_succ])
            refine tk_yes 5 (v := ?_) rfl (by kernel_rfl) (by kernel_rfl) (by kernel_rfl) (fun _ _ _ h => h) (by kernel_rfl) (by assumption) ?_ ?_; rotate_left; (focus (intro w hSw; (try dsimp only at hSw); go_simp; (first | done | (with_reducible rfl)))); (try simp only [Act.put, List.setIfInBounds_toArray, List.set_cons_zero, List.set_cons_succ])
            refine tk_yes 6 (v := ?_) rfl (by kernel_rfl) (by kernel_rfl) (by kernel_rfl) (fun _ _ _ h => h) (by kernel_rfl) (by assumption) ?_ ?_; rotate_left; (focus (intro w hSw; (try dsimp only at hSw); go_simp; (first | done | (with_reducible rfl)))); (try simp only [Act.put, List.setIfInBounds_toArray, List.set_cons_zero, List.set_cons_succ])
            refine tk_yes 7 (v := ?_) rfl (by kernel_rfl) (by kernel_rfl) (by kernel_rfl) (fun _ _ _ h => h) (by kernel_rfl) (by assumption) ?_ ?_; rotate_left; (focus (intro w hSw; (try dsimp only at hSw); go_simp; (first | done | (with_reducible rfl)))); (try simp only [Act.put, List.setIfInBounds_toArray, List.set_cons_zero, List.set_cons_succ])
            refine tk_call 8 rfl (by kernel_rfl) (by kernel_rfl) (fun KW hKW => ?_); go_simp; go_at_call 63; refine (K1.out _ (by repeat (first | exact Below.refl _ _ | assumption | refine bel_drew ?_ | refine bel_trans ?_ (by assumption)))).mono ?_; rintro e u1 ⟨rfl, z1⟩; have t1 := bel_trans (bel_drew hbel2) z1; refine hKW.out _ _ ?_ (fun hHeld => ?_); (focus ((try dsimp only); exact hS.out _ (by repeat (first | exact Below.refl _ _ | assumption | refine bel_drew ?_ | refine bel_trans ?_ (by assumption))))); clear hKW KW; (try simp only [Act.put, List.setIfInBounds_toArray, List.set_cons_zero, List.set_cons_succ])
            refine tk_yes 9 (v := ?_) rfl (by kernel_rfl) (by kernel_rfl) (by kernel_rfl) (fun _ _ _ h => h) (by kernel_rfl) (by assumption) ?_ ?_; rotate_left; (focus (intro w hSw; (try dsimp only at hSw); go_simp; (first | done | (with_reducible rfl)))); (try simp only [Act.put, List.setIfInBounds_toArray, List.set_cons_zero, List.set_cons_succ])
            refine wpAnyH_done (by kernel_rfl) ?_ _
            go_wp2_with fail
            go_ret
            exact givesFit_false (HBE.out _ (by exact (by repeat (first | exact Below.refl _ _ | assumption | refine bel_drew ?_ | refine bel_trans ?_ (by assumption)))))
          · have q3 : decide (r < 0) = false := decide_eq_false hr0
            have HE : Hid (∀ i', i' < k + 1 → 0 ≤ SK.member ms (SK.cl ts i')) := Lib.hid (fun i' h' => by
              rcases Nat.lt_or_ge i' k with h1 | h1
              · exact HD.out i' h1
              · obtain rfl : i' = k := by omega
                rw [HC.out, hr.out]; omega)
            go_wp2_with fail
            refine wp_region_held_drew (S := (fun W : World => W.cell? ⟨p, 0, none⟩ = some (.slice (some ⟨b0, off, none⟩) tn tc) ∧ W.cell? ⟨p, 3, none⟩ = some (.slice MA mn mc) ∧ W.cell? ⟨b0, off + k * 5 + 1, none⟩ = some (.int .i64 t.2.1))) (by kernel_rfl) ?_ (fun hHeld => ?_)
            focus ((try dsimp only); exact hS.out _ (by repeat (first | exact Below.refl _ _ | assumption | refine bel_drew ?_ | refine bel_trans ?_ (by assumption))))
            refine tk_yes 0 (v := ?_) rfl (by kernel_rfl) (by kernel_rfl) (by kernel_rfl) (fun _ _ _ h => h) (by kernel_rfl) (by assumption) ?_ ?_; rotate_left; (focus (intro w hSw; (try dsimp only at hSw); go_simp; (first | done | (with_reducible rfl)))); (try simp only [Act.put, List.setIfInBounds_toArray, List.set_cons_zero, List.set_cons_succ])
            refine tk_yes 1 (v := ?_) rfl (by kernel_rfl) (by kernel_rfl) (by kernel_rfl) (fun _ _ _ h => h) (by kernel_rfl) (by assumption) ?_ ?_; rotate_left; (focus (intro w hSw; (try dsimp only at hSw); go_simp; (first | done | (with_reducible rfl)))); (try simp only [Act.put, List.setIfInBounds_toArray, List.set_cons_zero, List.set_cons_succ])
            refine tk_yes 2 (v := ?_) rfl (by kernel_rfl) (by kernel_rfl) (by kernel_rfl) (fun _ _ _ h => h) (by kernel_rfl) (by assumption) ?_ ?_; rotate_left; (focus (intro w hSw; (try dsimp only at hSw); go_simp; (first | done | (with_reducible rfl)))); (try simp only [Act.put, List.setIfInBounds_toArray, List.set_cons_zero, List.set_cons_succ])
            refine tk_yes 3 (v := ?_) rfl (by kernel_rfl) (by kernel_rfl) (by kernel_rfl) (fun _ _ _ h => h) (by kernel_rfl) (by assumption) ?_ ?_; rotate_left; (focus (intro w hSw; (try dsimp only at hSw); go_simp; (first | done | (with_reducible rfl)))); (try simp only [Act.put, List.setIfInBounds_toArray, List.set_cons_zero, List.set_cons_succ])
            refine tk_yes 4 (v := ?_) rfl (by kernel_rfl) (by kernel_rfl) (by kernel_rfl) (fun _ _ _ h => h) (by kernel_rfl) (by assumption) ?_ ?_; rotate_left; (focus (intro w hSw; (try dsimp only at hSw); go_simp; (first | done | (with_reducible rfl)))); (try simp only [Act.put, List.setIfInBounds_toArray, List.set_cons_zero, List.set_cons_succ])
            refine tk_yes 5 (v := ?_) rfl (by kernel_rfl) (by kernel_rfl) (by kernel_rfl) (fun _ _ _ h => h) (by kernel_rfl) (by assumption) ?_ ?_; rotate_left; (focus (intro w hSw; (try dsimp only at hSw); go_simp; (first | done | (with_reducible rfl)))); (try simp only [Act.put, List.setIfInBounds_toArray, List.set_cons_zero, List.set_cons_succ])
            refine tk_yes 6 (v := ?_) rfl (by kernel_rfl) (by kernel_rfl) (by kernel_rfl) (fun _ _ _ h => h) (by kernel_rfl) (by assumption) ?_ ?_; rotate_left; (focus (intro w hSw; (try dsimp only at hSw); go_simp; (first | done | (with_reducible rfl)))); (try simp only [Act.put, List.setIfInBounds_toArray, List.set_cons_zero, List.set_cons_succ])
            refine tk_yes 7 (v := ?_) rfl (by kernel_rfl) (by kernel_rfl) (by kernel_rfl) (fun _ _ _ h => h) (by kernel_rfl) (by assumption) ?_ ?_; rotate_left; (focus (intro w hSw; (try dsimp only at hSw); go_simp; (first | done | (with_reducible rfl)))); (try simp only [Act.put, List.setIfInBounds_toArray, List.set_cons_zero, List.set_cons_succ])
            refine tk_call 8 rfl (by kernel_rfl) (by kernel_rfl) (fun KW hKW => ?_); go_simp; go_at_call 63; refine (K1.out _ (by repeat (first | exact Below.refl _ _ | assumption | refine bel_drew ?_ | refine bel_trans ?_ (by assumption)))).mono ?_; rintro e u1 ⟨rfl, z1⟩; have t1 := bel_trans (bel_drew hbel2) z1; refine hKW.out _ _ ?_ (fun hHeld => ?_); (focus ((try dsimp only); exact hS.out _ (by repeat (first | exact Below.refl _ _ | assumption | refine bel_drew ?_ | refine bel_trans ?_ (by assumption))))); clear hKW KW; (try simp only [Act.put, List.setIfInBounds_toArray, List.set_cons_zero, List.set_cons_succ])
            refine tk_yes 9 (v := ?_) rfl (by kernel_rfl) (by kernel_rfl) (by kernel_rfl) (fun _ _ _ h => h) (by kernel_rfl) (by assumption) ?_ ?_; rotate_left; (focus (intro w hSw; (try dsimp only at hSw); go_simp; (first | done | (with_reducible rfl)))); (try simp only [Act.put, List.setIfInBounds_toArray, List.set_cons_zero, List.set_cons_succ])
            refine wpAnyH_done (by kernel_rfl) ?_ _
            go_wp2_with fail
            go_roundw
            case rel => exact ⟨k + 1, by rw [HTL.out]; omega, by go_num, HE.out, by exact (by repeat (first | exact Below.refl _ _ | assumption | refine bel_drew ?_ | refine bel_trans ?_ (by assumption)))⟩
            case measure => simp [intOf]; omega
        · have HE : Hid (0 < tn → SK.Fit ts ms) := Lib.hid (fun h0 => ⟨HF.out, fun i' h' => HD.out i' (by rw [HTL.out] at h'; omega), by rw [HTL.out]; exact h0⟩)
          go_wp2_with fail
          go_ret
          exact ⟨_, rfl, fun h0 => HE.out (by simpa using h0), HBE.out _ (by exact (by repeat (first | exact Below.refl _ _ | assumption | refine bel_drew ?_ | refine bel_drewN ?_ _ | refine bel_alloc ?_ _ | refine bel_set ?_ (by first | (dsimp only; omega) | (simp; done) | (simp; omega)) _ | refine bel_trans ?_ (by assumption))))⟩
end Go.Proofs.Ythmjbfocpdiikaa
