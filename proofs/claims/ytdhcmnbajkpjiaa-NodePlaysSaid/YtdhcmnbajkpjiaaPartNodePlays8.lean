/- Part 8 of the proof of NodePlays: lemmas, each with its conditions ahead of it. -/
import Derived.Test.YtdhcmnbajkpjiaaPartNodePlays7
import Derived.Test.YtdhcmnbajkpjiaaPartNodePlays3
/-
  The walk of NodePlays.
-/
namespace Go.Proofs.Ytdhcmnbajkpjiaa
open Go.RowKit
open Go.Maps
set_option linter.unusedVariables false
set_option linter.unusedSimpArgs false
attribute [local go_sem] drewN_alloc drewN_setCell

section
variable {P : Nat → Prop} {w5 w w' : World} {V : Value} {n : Nat} {own : Nat → Prop} {Fb rb : Nat} {S S' : FSt} {N : List Nat}
theorem RefIs.form (h : RefIs P w V n S N) {k : Nat} (hk : N.length = k) : ∃ Ao co Ag cg Ac mc cc f An cn Ap cp, V = .agg #[.slice Ao n co, .slice Ag n cg, .slice Ac mc cc, .int .i64 f, .slice An k cn, .slice Ap k cp] := by
  subst hk
  obtain ⟨⟨Ao, co, Ag, cg, Ac, cc, An, cn, Ap, cp, rfl, _⟩, _⟩ := h
  exact ⟨_, _, _, _, _, _, _, _, _, _, _, _, rfl⟩
def vcells (V : Value) : List Value := match V with | .agg a => a.toList | _ => []
theorem over_take (h : OverStep w5 w own Fb n S' w') (hi : RefIs (fun b => ¬ own b ∧ b ≠ rb) w V n S N) (hrb : ¬ own rb) (hlt : rb < w.heap.size) :
    ∃ own', ForestOver w5 w' own' Fb n S' ∧ RefIs (fun b => ¬ own' b ∧ b ≠ rb) w' V n S N ∧ ¬ own' rb ∧ (∀ k, k < w.heap.size → ¬ own k → w'.heap[k]? = w.heap[k]? ∧ ¬ own' k) ∧ w.heap.size ≤ w'.heap.size := by
  obtain ⟨own', h1, h2, h3⟩ := h
  have key : ∀ k, k < w.heap.size → ¬ own k → ¬ own' k := fun k hk hn hh => by
    rcases h3 k hh with h4 | h4
    · exact hn h4
    · omega
  exact ⟨own', h1, ⟨hi.step h2 h3, hi.2⟩, key rb hlt hrb, fun k hk hn => ⟨h2.block k hk hn, key k hk hn⟩, h2.size⟩
theorem RefIs.far (h : RefIs (fun b => ¬ own b ∧ b ≠ rb) w V n S N) (hs : w.heap.size ≤ w'.heap.size) (hb : ∀ k, k ≠ rb → w'.heap[k]? = w.heap[k]?) : RefIs (fun b => ¬ own b ∧ b ≠ rb) w' V n S N :=
  ⟨h.1.blocks hs (fun b _ hP => hb b hP.2), h.2⟩
/-- At the head of a round. -/
def NPRel (w5 : World) (Fb rb n m : Nat) (i : Value) (wr : World) : Prop :=
  ∃ (j : Nat) (own : Nat → Prop) (S : FSt) (N : List Nat) (V : Value), j ≤ m ∧ i = .int .i64 j ∧ ForestOver w5 wr own Fb n S ∧ ¬ own rb ∧ RowAt wr rb 58 (vcells V) ∧ RefIs (fun b => ¬ own b ∧ b ≠ rb) wr V n S N
end
set_option maxRecDepth 100000 in
theorem law37_NodePlays_w1 (A : Option Addr) (n : Int) (m c : Nat) (a b : Int) (w : World) (h : (60 : Int) < (m : Int)) :
    Calls Try.prog 7 #[.int .i64 n, .slice A m c, .agg #[.int .i64 a, .int .i64 b]] w fun e w' => e = .returned (.bool true) ∧ Below w.heap.size w w' := by
  go_enter Try.func7, Try.ntmps7
  go_wp2_with fail
  refine (law37_works _).mono ?_
  rintro e w1 ⟨rfl, h1⟩
  have hb := Lib.hid (bel_trans (bel_alloc (Below.refl w.heap.size w) (.cells #[.int .i64 a, .int .i64 b] 32)) h1)
  clear h1
  go_wp2_with fail
  go_ret
  exact ⟨rfl, hb.out⟩
set_option maxRecDepth 100000 in
theorem law37_NodePlays_w2 (A : Option Addr) (n : Int) (m c : Nat) (a b : Int) (w : World) (h : (m : Int) ≤ 60) (h1 : 100 < n) (h2 : n ≤ 4096) :
    Calls Try.prog 7 #[.int .i64 n, .slice A m c, .agg #[.int .i64 a, .int .i64 b]] w fun e w' => e = .returned (.bool true) ∧ Below w.heap.size w w' := by
  go_enter Try.func7, Try.ntmps7
  go_wp2_with fail
  refine (law37_works _).mono ?_
  rintro e w1 ⟨rfl, h1⟩
  have hb := Lib.hid (bel_trans (bel_alloc (Below.refl w.heap.size w) (.cells #[.int .i64 a, .int .i64 b] 32)) h1)
  clear h1
  go_wp2_with fail
  go_ret
  exact ⟨rfl, hb.out⟩
set_option maxRecDepth 100000 in
theorem law37_NodePlays_n1 (A : Option Addr) (n : Int) (m c : Nat) (a b : Int) (w : World) (h : (m : Int) ≤ 60) (h1 : n < 0) (h2 : n ≤ 100) :
    Calls Try.prog 7 #[.int .i64 n, .slice A m c, .agg #[.int .i64 a, .int .i64 b]] w fun e w' => e = .returned (.bool true) ∧ Below w.heap.size w w' := by
  have c1 := fun W => node_New_no n W (by omega)
  replace c1 := Lib.hid c1
  go_enter Try.func7, Try.ntmps7
  go_wp2_with fail
  refine (c1.out _).mono ?_
  rintro e w1 ⟨rfl, rfl⟩
  go_wp2_with fail
  refine (law37_works _).mono ?_
  rintro e w1 ⟨rfl, h1⟩
  have hb := Lib.hid (bel_trans (bel_alloc (Below.refl w.heap.size w) (.cells #[.int .i64 a, .int .i64 b] 32)) h1)
  clear h1
  go_wp2_with fail
  go_ret
  exact ⟨rfl, hb.out⟩
set_option maxRecDepth 100000 in
theorem law37_NodePlays_n2 (A : Option Addr) (n : Int) (m c : Nat) (a b : Int) (w : World) (h : (m : Int) ≤ 60) (h1 : 4096 < n) (h2 : 100 < n) (h3 : 0 ≤ n) :
    Calls Try.prog 7 #[.int .i64 n, .slice A m c, .agg #[.int .i64 a, .int .i64 b]] w fun e w' => e = .returned (.bool true) ∧ Below w.heap.size w w' := by
  have c1 := fun W => node_New_no n W (by omega)
  replace c1 := Lib.hid c1
  go_enter Try.func7, Try.ntmps7
  go_wp2_with fail
  refine (c1.out _).mono ?_
  rintro e w1 ⟨rfl, rfl⟩
  go_wp2_with fail
  refine (law37_works _).mono ?_
  rintro e w1 ⟨rfl, h1⟩
  have hb := Lib.hid (bel_trans (bel_alloc (Below.refl w.heap.size w) (.cells #[.int .i64 a, .int .i64 b] 32)) h1)
  clear h1
  go_wp2_with fail
  go_ret
  exact ⟨rfl, hb.out⟩
theorem acts_cell {w : World} {A : Option Addr} {m c : Nat} {D : Nat → Nat → Int} (h : Fr.IsRows w 2 A m c D) {j : Nat} (hj : j < m) : ∃ b off, A = some ⟨b, off, none⟩ ∧ b < w.heap.size ∧ w.cell? ⟨b, off + j * 2, none⟩ = some (.int .i64 (D j 0)) ∧ w.cell? ⟨b, off + j * 2 + 1, none⟩ = some (.int .i64 (D j 1)) ∧ BdI (D j 1) := by
  rcases h with ⟨_, h0, _⟩ | ⟨b, off, rfl, hb, hmc, _, hc⟩
  · omega
  · have h0 := hc j (by omega) 0 (by omega)
    have h1 := hc j (by omega) 1 (by omega)
    exact ⟨b, off, rfl, hb (by omega), h0.1, h1.1, h1.2⟩
set_option maxRecDepth 100000 in
set_option maxHeartbeats 16000000 in
theorem law37_NodePlays_run (A : Option Addr) (n m c : Nat) (a b : Int) (w : World) (D : Nat → Nat → Int) (hA : Fr.IsRows w 2 A m c D) (hm : m ≤ 60) (hn : n ≤ 100) (hab : BdI a) :
    Calls Try.prog 7 #[.int .i64 (n : Int), .slice A m c, .agg #[.int .i64 a, .int .i64 b]] w fun e w' => e = .returned (.bool true) ∧ Below w.heap.size w w' := by
  have HA := Lib.hid hA
  have HAB := Lib.hid hab
  have HN := Lib.hid hn
  have j1 : (m : Int) ≤ 60 := by omega
  have j2 : (n : Int) ≤ 100 := by omega
  have j3 : (0 : Int) ≤ (n : Int) := by omega
  have j4 : ¬ (n : Int) < 0 := by omega
  have j5 : (n : Int) ≤ 4096 := by omega
  have j6 : decide ((n : Int) < 0) = false := decide_eq_false j4
  obtain ⟨w5, hw5⟩ : ∃ w5, w.alloc (.cells #[.int .i64 a, .int .i64 b] 32) = w5 := ⟨_, rfl⟩
  have T5 : RowAt w5 w.heap.size 32 [.int .i64 a, .int .i64 b] := by rw [← hw5]; exact RowAt.new w 32 _
  have D5 : Below w.heap.size w w5 := by rw [← hw5]; exact (by repeat (first | exact Below.refl _ _ | assumption | refine bel_drew ?_ | refine bel_drewN ?_ _ | refine bel_alloc ?_ _ | refine bel_set ?_ (by first | (dsimp only; omega) | (simp; done) | (simp; omega)) _ | refine bel_trans ?_ (by assumption)))
  have S5 : w.heap.size < w5.heap.size := T5.lt
  have NN := Lib.hid (overf_New n w5 (by omega))
  replace T5 := Lib.hid T5
  replace D5 := Lib.hid D5
  have HW5 := Lib.hid hw5
  clear hA hab hm hn hw5
  go_enter Try.func7, Try.ntmps7
  go_upto_region 1 with (fail)
  rw [HW5.out]
  go_wp2_with fail
  refine NN.out.mono ?_
  rintro e w1 ⟨Fb, o1, rfl, FO1⟩
  go_wp2_with fail
  refine (ref37_New (P := fun b => ¬ o1 b) n (by have := HN.out; omega) (fun b hb hh => by have := (FO1.fresh b hh).2; omega)).mono ?_
  rintro e w2 ⟨V, rfl, RI2, hb2⟩
  have FO2 := FO1.keep hb2
  have RI2' : RefIs (fun b => ¬ o1 b) w2 V n (FSt.new n) [] := ⟨RI2, NRel.none n⟩
  clear RI2
  obtain ⟨Ao, co, Ag, cg, Ac, mc, cc, f, An, cn, Ap, cp, rfl⟩ := RI2'.form (k := 0) rfl
  have o1lt : ∀ k, o1 k → k < w2.heap.size := fun k hk => (FO2.fresh k hk).2
  have w25 := FO2.below.size
  clear hb2 FO1
  go_upto_region 9 with (fail)
  refine region_name ?_
  rintro W3 hW3
  obtain ⟨rb, hrb⟩ : ∃ rb, w2.heap.size = rb := ⟨_, rfl⟩
  rw [hrb]
  have b3 : Below w2.heap.size w2 W3 := by rw [hW3]; exact (by repeat (first | exact Below.refl _ _ | assumption | refine bel_drew ?_ | refine bel_drewN ?_ _ | refine bel_alloc ?_ _ | refine bel_set ?_ (by first | (dsimp only; omega) | (simp; done) | (simp; omega)) _ | refine bel_trans ?_ (by assumption)))
  have HR3 : Hid (NPRel w5 Fb rb n m (.int .i64 0) W3) := Lib.hid ⟨0, o1, FSt.new n, [], _, Nat.zero_le _, rfl, FO2.keep b3, fun hh => by have := o1lt _ hh; omega, (by rw [hW3, ← hrb]; exact RowAt.new w2 58 [.slice Ao n co, .slice Ag n cg, .slice Ac mc cc, .int .i64 f, .slice An 0 cn, .slice Ap 0 cp]), ⟨(RI2'.1.mono (fun b hb hP => ⟨hP, by omega⟩)).keep b3, RI2'.2⟩⟩
  have HB5 : Hid (w5.heap.size ≤ rb) := Lib.hid (by omega)
  clear hW3 b3 FO2 RI2' o1lt w25 hrb NN
  go_wp2_with fail
  go_loopw [9] (fun i wr => NPRel w5 Fb rb n m i wr) (fun i _ => m - (intOf i).toNat)
  case atStart => exact HR3.out
  case round =>
    clear HR3
    obtain ⟨j, own, S, N, V, hj, rfl, FO, hrb, hrow, RI⟩ := hrel
    have HB5' := HB5.out
    have g0 : (0 : Int) ≤ (j : Int) := by omega
    obtain ⟨k, hk⟩ : ∃ k, N.length = k := ⟨_, rfl⟩
    obtain ⟨Ao, co, Ag, cg, Ac, mc, cc, f, An, cn, Ap, cp, rfl⟩ := RI.form hk
    have HKN := Lib.hid hk
    have r0 : RowAt wr rb 58 [.slice Ao n co, .slice Ag n cg, .slice Ac mc cc, .int .i64 f, .slice An k cn, .slice Ap k cp] := hrow
    have t0 := T5.out.below FO.below S5
    have HRB0 := Lib.hid hrb
    clear hrow hrb hk
    by_cases hlt : (j : Int) < m
    · obtain ⟨bA, oA, rfl, hbA, x0, x1, hbx⟩ := acts_cell HA.out (j := j) (by omega)
      have bw : Below w.heap.size w wr := bel_trans D5.out FO.below
      have y0 := (bw.cell (p := ⟨bA, oA + j * 2, none⟩) hbA).trans x0
      have y1 := (bw.cell (p := ⟨bA, oA + j * 2 + 1, none⟩) hbA).trans x1
      obtain ⟨cv, hcv⟩ : ∃ v, D j 0 = v := ⟨_, rfl⟩
      obtain ⟨x, hxv⟩ : ∃ v, D j 1 = v := ⟨_, rfl⟩
      rw [hcv] at y0
      rw [hxv] at y1 hbx
      have HX := Lib.hid hbx
      have HJ : Hid (j + 1 ≤ m) := Lib.hid (by omega)
      have HAT : Hid (¬ own w.heap.size) := Lib.hid (fun hh => by have := (FO.fresh _ hh).1; omega)
      have HFR : Hid (∀ k, wr.heap.size ≤ k → ¬ own k) := Lib.hid (fun k hk hh => by have := (FO.fresh k hh).2; omega)
      have ltr := r0.lt
      clear x0 x1 hbx hcv hxv bw
      go_upto_region 13 with (fail)
      refine region_name ?_
      rintro W1 hW1
      obtain ⟨ab, hab⟩ : ∃ ab, wr.heap.size = ab := ⟨_, rfl⟩
      rw [hab] at HFR ltr ⊢
      have b1 : Below wr.heap.size wr W1 := by rw [hW1]; exact (by repeat (first | exact Below.refl _ _ | assumption | refine bel_drew ?_ | refine bel_drewN ?_ _ | refine bel_alloc ?_ _ | refine bel_set ?_ (by first | (dsimp only; omega) | (simp; done) | (simp; omega)) _ | refine bel_trans ?_ (by assumption)))
      have a1 : RowAt W1 ab 61 [.int .i64 cv, .int .i64 x] := by rw [hW1, ← hab]; exact RowAt.new wr 61 _
      have r1 := r0.keep b1
      have t1 := t0.keep b1
      have FO1 := FO.keep b1
      have RI1 := RI.keep b1
      have sz1 : ab < W1.heap.size := a1.lt
      have HPN : Hid (∀ b, W1.heap.size ≤ b → ¬ own b ∧ b ≠ rb) := Lib.hid (fun b hb => ⟨HFR.out b (by omega), by omega⟩)
      have wat : w.heap.size < ab := by have := FO.below.size; omega
      clear hW1 b1 r0 t0 FO RI y0 y1 hab hj hlt
      have c0 : W1.cell? ⟨rb, 0, none⟩ = some (.slice Ao n co) := by rw [r1.cell]; rfl
      have c1 : W1.cell? ⟨rb, 1, none⟩ = some (.slice Ag n cg) := by rw [r1.cell]; rfl
      have c2 : W1.cell? ⟨rb, 2, none⟩ = some (.slice Ac mc cc) := by rw [r1.cell]; rfl
      have c3 : W1.cell? ⟨rb, 3, none⟩ = some (.int .i64 f) := by rw [r1.cell]; rfl
      have c4 : W1.cell? ⟨rb, 4, none⟩ = some (.slice An k cn) := by rw [r1.cell]; rfl
      have c5 : W1.cell? ⟨rb, 5, none⟩ = some (.slice Ap k cp) := by rw [r1.cell]; rfl
      have e0 : W1.cell? ⟨ab, 0, none⟩ = some (.int .i64 cv) := by rw [a1.cell]; rfl
      have e1 : W1.cell? ⟨ab, 1, none⟩ = some (.int .i64 x) := by rw [a1.cell]; rfl
      by_cases hc2 : cv = 2
      · subst hc2
        have KD : Hid (Calls Try.prog 38 #[.agg #[.slice Ao n co, .slice Ag n cg, .slice Ac mc cc, .int .i64 f, .slice An k cn, .slice Ap k cp], .int .i64 x] W1 (DropIs (fun b => ¬ own b ∧ b ≠ rb) n S x W1)) := Lib.hid (refDrop x FO1.fi HPN.out RI1)
        clear RI1
        go_wp2_with fail
        refine KD.out.mono ?_
        rintro e w2 ⟨V', N', rfl, RI2, hb2⟩
        have FO2 := FO1.keep hb2
        have r2 := r1.keep hb2
        have a2 := a1.keep hb2
        have t2 := t1.keep hb2
        obtain ⟨k', hk'⟩ : ∃ k, N'.length = k := ⟨_, rfl⟩
        obtain ⟨okb, hok⟩ : ∃ b, dropOk S.O S.R x = b := ⟨_, rfl⟩
        have HOK := Lib.hid hok
        rw [hok]
        have sz2 := hb2.size
        clear KD hb2 r1 a1 t1 FO1 e0 e1
        obtain ⟨Ao', co', Ag', cg', Ac', mc', cc', f', An', cn', Ap', cp', rfl⟩ := RI2.form hk'
        go_upto_region 15 with (fail)
        refine region_name ?_
        rintro W3 hW3
        have b3 : Below w2.heap.size w2 W3 := by rw [hW3]; exact (by repeat (first | exact Below.refl _ _ | assumption | refine bel_drew ?_ | refine bel_drewN ?_ _ | refine bel_alloc ?_ _ | refine bel_set ?_ (by first | (dsimp only; omega) | (simp; done) | (simp; omega)) _ | refine bel_trans ?_ (by assumption)))
        have x3 : RowAt W3 w2.heap.size 58 [.slice Ao' n co', .slice Ag' n cg', .slice Ac' mc' cc', .int .i64 f', .slice An' k' cn', .slice Ap' k' cp'] := by rw [hW3]; exact RowAt.new w2 58 _
        have sz3 : w2.heap.size < W3.heap.size := x3.lt
        have FO3 := FO2.keep b3
        have r3 := r2.keep b3
        have a3 := a2.keep b3
        have t3 := t2.keep b3
        have RI3 := RI2.keep b3
        clear hW3 b3 FO2 r2 a2 t2 RI2
        have e1 : W3.cell? ⟨ab, 1, none⟩ = some (.int .i64 x) := by rw [a3.cell]; rfl
        have KF : Hid (Calls Try.prog 39 #[.pointer (some ⟨Fb, 0, none⟩), .int .i64 x] W3 fun e w' => e = .returned (.bool okb) ∧ OverStep w5 W3 own Fb n (S.drop n x) w') := Lib.hid (by
          have := overf_Drop x FO3
          rwa [HOK.out] at this)
        clear FO3
        go_wp2_with fail
        refine KF.out.mono ?_
        rintro e w4 ⟨rfl, hst⟩
        obtain ⟨own', FO4, RI4, rb4, hblk, sz4⟩ := over_take hst RI3 HRB0.out (by omega)
        have r4 := r3.of_block (hblk rb (by omega) HRB0.out).1
        have a4 := a3.of_block (hblk ab (by omega) (HFR.out ab (Nat.le_refl _))).1
        have t4 := t3.of_block (hblk w.heap.size (by omega) HAT.out).1
        have x4 := x3.of_block (hblk w2.heap.size sz3 (HFR.out _ (by omega))).1
        have nab : ab ≠ rb := by omega
        have nat : w.heap.size ≠ rb := by omega
        clear e1 hst RI3 r3 a3 t3 x3 hblk KF
        have e0 := (x4.cell 0).trans rfl
        have e1 := (x4.cell 1).trans rfl
        have e2 := (x4.cell 2).trans rfl
        have e3 := (x4.cell 3).trans rfl
        have e4 := (x4.cell 4).trans rfl
        have e5 := (x4.cell 5).trans rfl
        have d0 := (r4.cell 0).trans rfl
        have d1 := (r4.cell 1).trans rfl
        have d2 := (r4.cell 2).trans rfl
        have d3 := (r4.cell 3).trans rfl
        have d4 := (r4.cell 4).trans rfl
        have d5 := (r4.cell 5).trans rfl
        have f0 := r4.frozen 0
        have f1 := r4.frozen 1
        have f2 := r4.frozen 2
        have f3 := r4.frozen 3
        have f4 := r4.frozen 4
        have f5 := r4.frozen 5
        go_upto_region 30 with (fail)
        refine region_name ?_
        rintro W7 hW7
        have far : ∀ j, j ≠ rb → W7.heap[j]? = w4.heap[j]? := fun j hj => by rw [hW7]; exact set6_block _ _ _ _ _ _ _ _ _ hj
        have sz7 : w4.heap.size ≤ W7.heap.size := by rw [hW7]; simp
        have r7 : RowAt W7 rb 58 [.slice Ao' n co', .slice Ag' n cg', .slice Ac' mc' cc', .int .i64 f', .slice An' k' cn', .slice Ap' k' cp'] := by
          rw [hW7]; exact (((((r4.set_ 0 _).set_ 1 _).set_ 2 _).set_ 3 _).set_ 4 _).set_ 5 _
        have a7 := a4.of_block (far ab nab)
        have t7 := t4.of_block (far w.heap.size nat)
        have RI7 := RI4.far sz7 far
        have B7 : Below w5.heap.size w5 W7 := by rw [hW7]; exact set6_below FO4.below HB5.out _ _ _ _ _ _
        have FO7 := FO4.of_own (fun j hj => far j (fun e => rb4 (e ▸ hj))) sz7 B7
        have rb7 := rb4
        have HK7 : Hid ((S.drop n x).O.length = k') := Lib.hid ((RI7.2.len FO7.fi).symm.trans hk')
        clear hW7 far sz7 r4 a4 t4 x4 RI4 B7 FO4 rb4 e0 e1 e2 e3 e4 e5 d0 d1 d2 d3 d4 d5 f0 f1 f2 f3 f4 f5 hk'
        have lt1 : rb < W7.heap.size := r7.lt
        have lt2 : ab < W7.heap.size := a7.lt
        have lt3 : w.heap.size < W7.heap.size := t7.lt
        have hS : Hid (∀ W : World, Below W7.heap.size W7 W → (fun W : World => W.cell? ⟨rb, 0, none⟩ = some (.slice Ao' n co') ∧ W.cell? ⟨rb, 1, none⟩ = some (.slice Ag' n cg') ∧ W.cell? ⟨rb, 2, none⟩ = some (.slice Ac' mc' cc') ∧ W.cell? ⟨rb, 3, none⟩ = some (.int .i64 f') ∧ W.cell? ⟨rb, 4, none⟩ = some (.slice An' k' cn') ∧ W.cell? ⟨rb, 5, none⟩ = some (.slice Ap' k' cp') ∧ W.cell? ⟨ab, 1, none⟩ = some (.int .i64 x) ∧ W.cell? ⟨w.heap.size, 0, none⟩ = some (.int .i64 a) ∧ W.cell? ⟨w.heap.size, 1, none⟩ = some (.int .i64 b)) W) := Lib.hid (fun W hW => ⟨(hW.cell (p := ⟨rb, 0, none⟩) lt1).trans ((r7.cell 0).trans rfl), (hW.cell (p := ⟨rb, 1, none⟩) lt1).trans ((r7.cell 1).trans rfl), (hW.cell (p := ⟨rb, 2, none⟩) lt1).trans ((r7.cell 2).trans rfl), (hW.cell (p := ⟨rb, 3, none⟩) lt1).trans ((r7.cell 3).trans rfl), (hW.cell (p := ⟨rb, 4, none⟩) lt1).trans ((r7.cell 4).trans rfl), (hW.cell (p := ⟨rb, 5, none⟩) lt1).trans ((r7.cell 5).trans rfl), (hW.cell (p := ⟨ab, 1, none⟩) lt2).trans ((a7.cell 1).trans rfl), (hW.cell (p := ⟨w.heap.size, 0, none⟩) lt3).trans ((t7.cell 0).trans rfl), (hW.cell (p := ⟨w.heap.size, 1, none⟩) lt3).trans ((t7.cell 1).trans rfl)⟩)
        have hNle := RI7.2.le FO7.fi
        have KS1 : Hid (∀ W, Below W7.heap.size W7 W → Calls Try.prog 43 #[.pointer (some ⟨Fb, 0, none⟩), .agg #[.slice Ao' n co', .slice Ag' n cg', .slice Ac' mc' cc', .int .i64 f', .slice An' k' cn', .slice Ap' k' cp'], .int .i64 x, .int .i64 0] W fun e w' => e = .returned (.bool true) ∧ Below W.heap.size W w') := Lib.hid (fun W hW => law37_same x 0 HX.out (FO7.keep hW) (RI7.1.keep hW) RI7.2 hNle)
        have KS2 : Hid (∀ W, Below W7.heap.size W7 W → Calls Try.prog 43 #[.pointer (some ⟨Fb, 0, none⟩), .agg #[.slice Ao' n co', .slice Ag' n cg', .slice Ac' mc' cc', .int .i64 f', .slice An' k' cn', .slice Ap' k' cp'], .int .i64 a, .int .i64 b] W fun e w' => e = .returned (.bool true) ∧ Below W.heap.size W w') := Lib.hid (fun W hW => law37_same a b HAB.out (FO7.keep hW) (RI7.1.keep hW) RI7.2 hNle)
        have KL : Hid (∀ W, Below W7.heap.size W7 W → Calls Try.prog 44 #[.pointer (some ⟨Fb, 0, none⟩)] W fun e w' => e = .returned (.int .i64 (k' : Int)) ∧ Below W.heap.size W w') := Lib.hid (fun W hW => by
          have := to_bel (overf_Len (FO7.keep hW))
          rwa [HK7.out] at this)
        have HFO := Lib.hid FO7
        have HRI := Lib.hid RI7
        have HR7 := Lib.hid r7
        have HRB := Lib.hid rb7
        clear FO7 RI7 r7 a7 t7 rb7 lt1 lt2 lt3 hNle
        refine wp_region_held_drew (S := (fun W : World => W.cell? ⟨rb, 0, none⟩ = some (.slice Ao' n co') ∧ W.cell? ⟨rb, 1, none⟩ = some (.slice Ag' n cg') ∧ W.cell? ⟨rb, 2, none⟩ = some (.slice Ac' mc' cc') ∧ W.cell? ⟨rb, 3, none⟩ = some (.int .i64 f') ∧ W.cell? ⟨rb, 4, none⟩ = some (.slice An' k' cn') ∧ W.cell? ⟨rb, 5, none⟩ = some (.slice Ap' k' cp') ∧ W.cell? ⟨ab, 1, none⟩ = some (.int .i64 x) ∧ W.cell? ⟨w.heap.size, 0, none⟩ = some (.int .i64 a) ∧ W.cell? ⟨w.heap.size, 1, none⟩ = some (.int .i64 b))) (by kernel_rfl) ?_ (fun hHeld => ?_)
        focus ((try dsimp only); first | exact q | exact hS.out _ (by repeat (first | exact Below.refl _ _ | assumption | refine bel_drew ?_ | refine bel_drewN ?_ _ | refine bel_alloc ?_ _ | refine bel_trans ?_ (by assumption))))
        refine tk_yes 0 (v := ?_) rfl (by kernel_rfl) (by kernel_rfl) (by kernel_rfl) (fun _ _ _ h => h) (by kernel_rfl) (by assumption) ?_ ?_; rotate_left; (focus (intro w hSw; (try dsimp only at hSw); go_simp; (first | done | (with_reducible rfl)))); (try simp only [Act.put, List.setIfInBounds_toArray, List.set_cons_zero, List.set_cons_succ])
        refine tk_yes 1 (v := ?_) rfl (by kernel_rfl) (by kernel_rfl) (by kernel_rfl) (fun _ _ _ h => h) (by kernel_rfl) (by assumption) ?_ ?_; rotate_left; (focus (intro w hSw; (try dsimp only at hSw); go_simp; (first | done | (with_reducible rfl)))); (try simp only [Act.put, List.setIfInBounds_toArray, List.set_cons_zero, List.set_cons_succ])
        refine tk_yes 2 (v := ?_) rfl (by kernel_rfl) (by kernel_rfl) (by kernel_rfl) (fun _ _ _ h => h) (by kernel_rfl) (by assumption) ?_ ?_; rotate_left; (focus (intro w hSw; (try dsimp only at hSw); go_simp; (first | done | (with_reducible rfl)))); (try simp only [Act.put, List.setIfInBounds_toArray, List.set_cons_zero, List.set_cons_succ])
        refine tk_yes 3 (v := ?_) rfl (by kernel_rfl) (by kernel_rfl) (by kernel_rfl) (fun _ _ _ h => h) (by kernel_rfl) (by assumption) ?_ ?_; rotate_left; (focus (intro w hSw; (try dsimp only at hSw); go_simp; (first | done | (with_reducible rfl)))); (try simp only [Act.put, List.setIfInBounds_toArray, List.set_cons_zero, List.set_cons_succ])
        refine tk_call 4 rfl (by kernel_rfl) (by kernel_rfl) (fun KW hKW => ?_); go_simp; go_at_call 43; refine (KS1.out _ (by repeat (first | exact Below.refl _ _ | assumption | refine bel_drew ?_ | refine bel_drewN ?_ _ | refine bel_alloc ?_ _ | refine bel_trans ?_ (by assumption)))).mono ?_; rintro e u4 ⟨rfl, hb4⟩; have B4 := bel_to (W0 := W7) (by repeat (first | exact Below.refl _ _ | assumption | refine bel_drew ?_ | refine bel_drewN ?_ _ | refine bel_alloc ?_ _ | refine bel_trans ?_ (by assumption))) hb4; have q := hS.out _ B4; clear hb4; refine hKW.out _ _ ?_ (fun hHeld => ?_); (focus ((try dsimp only); first | exact q | exact hS.out _ (by repeat (first | exact Below.refl _ _ | assumption | refine bel_drew ?_ | refine bel_drewN ?_ _ | refine bel_alloc ?_ _ | refine bel_trans ?_ (by assumption))))); clear hKW KW; (try simp only [Act.put, List.setIfInBounds_toArray, List.set_cons_zero, List.set_cons_succ])
        refine tk_yes 5 (v := ?_) rfl (by kernel_rfl) (by kernel_rfl) (by kernel_rfl) (fun _ _ _ h => h) (by kernel_rfl) (by assumption) ?_ ?_; rotate_left; (focus (intro w hSw; (try dsimp only at hSw); go_simp; (first | done | (with_reducible rfl)))); (try simp only [Act.put, List.setIfInBounds_toArray, List.set_cons_zero, List.set_cons_succ])
        refine tk_yes 6 (v := ?_) rfl (by kernel_rfl) (by kernel_rfl) (by kernel_rfl) (fun _ _ _ h => h) (by kernel_rfl) (by assumption) ?_ ?_; rotate_left; (focus (intro w hSw; (try dsimp only at hSw); go_simp; (first | done | (with_reducible rfl)))); (try simp only [Act.put, List.setIfInBounds_toArray, List.set_cons_zero, List.set_cons_succ])
        refine tk_yes 7 (v := ?_) rfl (by kernel_rfl) (by kernel_rfl) (by kernel_rfl) (fun _ _ _ h => h) (by kernel_rfl) (by assumption) ?_ ?_; rotate_left; (focus (intro w hSw; (try dsimp only at hSw); go_simp; (first | done | (with_reducible rfl)))); (try simp only [Act.put, List.setIfInBounds_toArray, List.set_cons_zero, List.set_cons_succ])
        refine tk_yes 8 (v := ?_) rfl (by kernel_rfl) (by kernel_rfl) (by kernel_rfl) (fun _ _ _ h => h) (by kernel_rfl) (by assumption) ?_ ?_; rotate_left; (focus (intro w hSw; (try dsimp only at hSw); go_simp; (first | done | (with_reducible rfl)))); (try simp only [Act.put, List.setIfInBounds_toArray, List.set_cons_zero, List.set_cons_succ])
        refine tk_yes 9 (v := ?_) rfl (by kernel_rfl) (by kernel_rfl) (by kernel_rfl) (fun _ _ _ h => h) (by kernel_rfl) (by assumption) ?_ ?_; rotate_left; (focus (intro w hSw; (try dsimp only at hSw); go_simp; (first | done | (with_reducible rfl)))); (try simp only [Act.put, List.setIfInBounds_toArray, List.set_cons_zero, List.set_cons_succ])
        refine tk_yes 10 (v := ?_) rfl (by kernel_rfl) (by kernel_rfl) (by kernel_rfl) (fun _ _ _ h => h) (by kernel_rfl) (by assumption) ?_ ?_; rotate_left; (focus (intro w hSw; (try dsimp only at hSw); go_simp; (first | done | (with_reducible rfl)))); (try simp only [Act.put, List.setIfInBounds_toArray, List.set_cons_zero, List.set_cons_succ])
        refine tk_yes 11 (v := ?_) rfl (by kernel_rfl) (by kernel_rfl) (by kernel_rfl) (fun _ _ _ h => h) (by kernel_rfl) (by assumption) ?_ ?_; rotate_left; (focus (intro w hSw; (try dsimp only at hSw); go_simp; (first | done | (with_reducible rfl)))); (try simp only [Act.put, List.setIfInBounds_toArray, List.set_cons_zero, List.set_cons_succ])
        refine tk_yes 12 (v := ?_) rfl (by kernel_rfl) (by kernel_rfl) (by kernel_rfl) (fun _ _ _ h => h) (by kernel_rfl) (by assumption) ?_ ?_; rotate_left; (focus (intro w hSw; (try dsimp only at hSw); go_simp; (first | done | (with_reducible rfl)))); (try simp only [Act.put, List.setIfInBounds_toArray, List.set_cons_zero, List.set_cons_succ])
        refine tk_call 13 rfl (by kernel_rfl) (by kernel_rfl) (fun KW hKW => ?_); go_simp; go_at_call 43; refine (KS2.out _ (by repeat (first | exact Below.refl _ _ | assumption | refine bel_drew ?_ | refine bel_drewN ?_ _ | refine bel_alloc ?_ _ | refine bel_trans ?_ (by assumption)))).mono ?_; rintro e u13 ⟨rfl, hb13⟩; have B13 := bel_to (W0 := W7) (by repeat (first | exact Below.refl _ _ | assumption | refine bel_drew ?_ | refine bel_drewN ?_ _ | refine bel_alloc ?_ _ | refine bel_trans ?_ (by assumption))) hb13; have q := hS.out _ B13; clear hb13; refine hKW.out _ _ ?_ (fun hHeld => ?_); (focus ((try dsimp only); first | exact q | exact hS.out _ (by repeat (first | exact Below.refl _ _ | assumption | refine bel_drew ?_ | refine bel_drewN ?_ _ | refine bel_alloc ?_ _ | refine bel_trans ?_ (by assumption))))); clear hKW KW; (try simp only [Act.put, List.setIfInBounds_toArray, List.set_cons_zero, List.set_cons_succ])
        refine tk_yes 14 (v := ?_) rfl (by kernel_rfl) (by kernel_rfl) (by kernel_rfl) (fun _ _ _ h => h) (by kernel_rfl) (by assumption) ?_ ?_; rotate_left; (focus (intro w hSw; (try dsimp only at hSw); go_simp; (first | done | (with_reducible rfl)))); (try simp only [Act.put, List.setIfInBounds_toArray, List.set_cons_zero, List.set_cons_succ])
        refine tk_yes 15 (v := ?_) rfl (by kernel_rfl) (by kernel_rfl) (by kernel_rfl) (fun _ _ _ h => h) (by kernel_rfl) (by assumption) ?_ ?_; rotate_left; (focus (intro w hSw; (try dsimp only at hSw); go_simp; (first | done | (with_reducible rfl)))); (try simp only [Act.put, List.setIfInBounds_toArray, List.set_cons_zero, List.set_cons_succ])
        refine tk_yes 16 (v := ?_) rfl (by kernel_rfl) (by kernel_rfl) (by kernel_rfl) (fun _ _ _ h => h) (by kernel_rfl) (by assumption) ?_ ?_; rotate_left; (focus (intro w hSw; (try dsimp only at hSw); go_simp; (first | done | (with_reducible rfl)))); (try simp only [Act.put, List.setIfInBounds_toArray, List.set_cons_zero, List.set_cons_succ])
        refine tk_yes 17 (v := ?_) rfl (by kernel_rfl) (by kernel_rfl) (by kernel_rfl) (fun _ _ _ h => h) (by kernel_rfl) (by assumption) ?_ ?_; rotate_left; (focus (intro w hSw; (try dsimp only at hSw); go_simp; (first | done | (with_reducible rfl)))); (try simp only [Act.put, List.setIfInBounds_toArray, List.set_cons_zero, List.set_cons_succ])
        refine tk_yes 19 (v := ?_) rfl (by kernel_rfl) (by kernel_rfl) (by kernel_rfl) (fun _ _ _ h => h) (by kernel_rfl) (by assumption) ?_ ?_; rotate_left; (focus (intro w hSw; (try dsimp only at hSw); go_simp; (first | done | (with_reducible rfl)))); (try simp only [Act.put, List.setIfInBounds_toArray, List.set_cons_zero, List.set_cons_succ])
        refine tk_yes 20 (v := ?_) rfl (by kernel_rfl) (by kernel_rfl) (by kernel_rfl) (fun _ _ _ h => h) (by kernel_rfl) (by assumption) ?_ ?_; rotate_left; (focus (intro w hSw; (try dsimp only at hSw); go_simp; (first | done | (with_reducible rfl)))); (try simp only [Act.put, List.setIfInBounds_toArray, List.set_cons_zero, List.set_cons_succ])
        refine tk_yes 21 (v := ?_) rfl (by kernel_rfl) (by kernel_rfl) (by kernel_rfl) (fun _ _ _ h => h) (by kernel_rfl) (by assumption) ?_ ?_; rotate_left; (focus (intro w hSw; (try dsimp only at hSw); go_simp; (first | done | (with_reducible rfl)))); (try simp only [Act.put, List.setIfInBounds_toArray, List.set_cons_zero, List.set_cons_succ])
        refine tk_call 18 rfl (by kernel_rfl) (by kernel_rfl) (fun KW hKW => ?_); go_simp; go_at_call 44; refine (KL.out _ (by repeat (first | exact Below.refl _ _ | assumption | refine bel_drew ?_ | refine bel_drewN ?_ _ | refine bel_alloc ?_ _ | refine bel_trans ?_ (by assumption)))).mono ?_; rintro e u18 ⟨rfl, hb18⟩; have B18 := bel_to (W0 := W7) (by repeat (first | exact Below.refl _ _ | assumption | refine bel_drew ?_ | refine bel_drewN ?_ _ | refine bel_alloc ?_ _ | refine bel_trans ?_ (by assumption))) hb18; have q := hS.out _ B18; clear hb18; refine hKW.out _ _ ?_ (fun hHeld => ?_); (focus ((try dsimp only); first | exact q | exact hS.out _ (by repeat (first | exact Below.refl _ _ | assumption | refine bel_drew ?_ | refine bel_drewN ?_ _ | refine bel_alloc ?_ _ | refine bel_trans ?_ (by assumption))))); clear hKW KW; (try simp only [Act.put, List.setIfInBounds_toArray, List.set_cons_zero, List.set_cons_succ])
        refine tk_yes 22 (v := ?_) rfl (by kernel_rfl) (by kernel_rfl) (by kernel_rfl) (fun _ _ _ h => h) (by kernel_rfl) (by assumption) ?_ ?_; rotate_left; (focus (intro w hSw; (try dsimp only at hSw); go_simp; (first | done | (with_reducible rfl)))); (try simp only [Act.put, List.setIfInBounds_toArray, List.set_cons_zero, List.set_cons_succ])
        refine tk_yes 23 (v := ?_) rfl (by kernel_rfl) (by kernel_rfl) (by kernel_rfl) (fun _ _ _ h => h) (by kernel_rfl) (by assumption) ?_ ?_; rotate_left; (focus (intro w hSw; (try dsimp only at hSw); go_simp; (first | done | (with_reducible rfl)))); (try simp only [Act.put, List.setIfInBounds_toArray, List.set_cons_zero, List.set_cons_succ])
        refine wpAnyH_done (by kernel_rfl) ?_ _
        have hj1 := HJ.out
        have hj2 : (j : Int) + 1 ≤ (m : Int) := by omega
        go_wp2_with fail
        go_roundw
        case rel => exact ⟨j + 1, own', S.drop n x, N', .agg #[.slice Ao' n co', .slice Ag' n cg', .slice Ac' mc' cc', .int .i64 f', .slice An' k' cn', .slice Ap' k' cp'], HJ.out, by go_num, HFO.out.keep B18, HRB.out, HR7.out.keep B18, HRI.out.keep B18⟩
        case measure => simp [intOf]; omega
      · have hq2 : (cv == 2) = false := by simpa using hc2
        by_cases hc1 : cv = 1
        · subst hc1
          by_cases hx1 : x = -1
          · subst hx1
            have hfi := FO1.fi
            have hul := FO1.ulen
            obtain ⟨pv, hpv⟩ : ∃ p, S.tp n = p := ⟨_, rfl⟩
            obtain ⟨gv, hgv⟩ : ∃ p, S.tg n = p := ⟨_, rfl⟩
            obtain ⟨okb, hok⟩ : ∃ p, S.tb n = p := ⟨_, rfl⟩
            obtain ⟨S2, hS2⟩ : ∃ T, S.add n n (-1) = T := ⟨_, rfl⟩
            have KF : Hid (Calls Try.prog 40 #[.pointer (some ⟨Fb, 0, none⟩), .int .i64 (-1)] W1 fun e w' => e = .returned (.tuple #[.int .i64 0, .int .i64 0, .bool false]) ∧ OverStep w5 W1 own Fb n S w') := Lib.hid (by
              have := overf_Child (-1) FO1
              have hin : (-1 : Int) ∉ ints S.O := fun h => by have := in_nat.1 h; omega
              have e1 : S.toldC n (-1) = .tuple #[.int .i64 0, .int .i64 0, .bool false] := by unfold FSt.toldC; rw [if_neg hin]
              have e2 : S.child n (-1) = S := by unfold FSt.child; rw [if_neg hin]
              rwa [e1, e2] at this)
            have KA : Hid (∀ (own' : Nat → Prop) (W : World), RefIs (fun b => ¬ own' b ∧ b ≠ rb) W (.agg #[.slice Ao n co, .slice Ag n cg, .slice Ac mc cc, .int .i64 f, .slice An k cn, .slice Ap k cp]) n S N → (∀ b, W.heap.size ≤ b → ¬ own' b ∧ b ≠ rb) → Calls Try.prog 42 #[.agg #[.slice Ao n co, .slice Ag n cg, .slice Ac mc cc, .int .i64 f, .slice An k cn, .slice Ap k cp], .int .i64 (-1)] W fun e w' => ∃ V' N', e = .returned (.tuple #[V', .int .i64 pv, .int .i64 gv, .bool okb]) ∧ RefIs (fun b => ¬ own' b ∧ b ≠ rb) w' V' n S2 N' ∧ Below W.heap.size W w') := Lib.hid (fun own' W hR hP => by
              have := refAdd_root hfi hul hP hR
              unfold AddIs at this
              rwa [hpv, hgv, hok, hS2] at this)
            clear FO1 hfi hul hpv hgv hok hS2
            go_wp2_with fail
            refine KF.out.mono ?_
            rintro e w2 ⟨rfl, hst⟩
            obtain ⟨own', FO2, RI2, rb2, hblk, sz2⟩ := over_take hst RI1 HRB0.out (by omega)
            have r2 := r1.of_block (hblk rb (by omega) HRB0.out).1
            have a2 := a1.of_block (hblk ab (by omega) (HFR.out ab (Nat.le_refl _))).1
            have t2 := t1.of_block (hblk w.heap.size (by omega) HAT.out).1
            have KA2 := Lib.hid (KA.out own' w2 RI2 (fun b hb => ⟨fun hh => by have := (FO2.fresh b hh).2; omega, by omega⟩))
            clear e0 e1 hst RI1 r1 a1 t1 hblk KF KA
            clear c0
            clear c1
            clear c2
            clear c3
            clear c4
            clear c5
            have c0 : w2.cell? ⟨rb, 0, none⟩ = some (.slice Ao n co) := by rw [r2.cell]; rfl
            have c1 : w2.cell? ⟨rb, 1, none⟩ = some (.slice Ag n cg) := by rw [r2.cell]; rfl
            have c2 : w2.cell? ⟨rb, 2, none⟩ = some (.slice Ac mc cc) := by rw [r2.cell]; rfl
            have c3 : w2.cell? ⟨rb, 3, none⟩ = some (.int .i64 f) := by rw [r2.cell]; rfl
            have c4 : w2.cell? ⟨rb, 4, none⟩ = some (.slice An k cn) := by rw [r2.cell]; rfl
            have c5 : w2.cell? ⟨rb, 5, none⟩ = some (.slice Ap k cp) := by rw [r2.cell]; rfl
            have e0 : w2.cell? ⟨ab, 0, none⟩ = some (.int .i64 1) := by rw [a2.cell]; rfl
            have e1 : w2.cell? ⟨ab, 1, none⟩ = some (.int .i64 (-1)) := by rw [a2.cell]; rfl
            go_wp2_with fail
            refine KA2.out.mono ?_
            rintro e w3 ⟨V', N', rfl, RI3, hb3⟩
            have FO3 := FO2.keep hb3
            have r3 := r2.keep hb3
            have a3 := a2.keep hb3
            have t3 := t2.keep hb3
            have sz3 := hb3.size
            obtain ⟨k', hk'⟩ : ∃ k, N'.length = k := ⟨_, rfl⟩
            have RI3o := RI2.keep hb3
            clear hb3 r2 a2 t2 FO2 e0 e1 c0 c1 c2 c3 c4 c5 KA2
            obtain ⟨Ao', co', Ag', cg', Ac', mc', cc', f', An', cn', Ap', cp', rfl⟩ := RI3.form hk'
            go_upto_region 25 with (fail)
            refine region_name ?_
            rintro W4 hW4
            have b4 : Below w3.heap.size w3 W4 := by rw [hW4]; exact (by repeat (first | exact Below.refl _ _ | assumption | refine bel_drew ?_ | refine bel_drewN ?_ _ | refine bel_alloc ?_ _ | refine bel_set ?_ (by first | (dsimp only; omega) | (simp; done) | (simp; omega)) _ | refine bel_trans ?_ (by assumption)))
            have x4 : RowAt W4 w3.heap.size 58 [.slice Ao' n co', .slice Ag' n cg', .slice Ac' mc' cc', .int .i64 f', .slice An' k' cn', .slice Ap' k' cp'] := by rw [hW4]; exact RowAt.new w3 58 _
            have sz4 : w3.heap.size < W4.heap.size := x4.lt
            have FO4 := FO3.keep b4
            have r4 := r3.keep b4
            have a4 := a3.keep b4
            have t4 := t3.keep b4
            have RI4 := RI3o.keep b4
            have RI4x : RefIs (fun b => ¬ own' b ∧ b ≠ rb ∧ b ≠ w3.heap.size) W4 (.agg #[.slice Ao n co, .slice Ag n cg, .slice Ac mc cc, .int .i64 f, .slice An k cn, .slice Ap k cp]) n S N := ⟨(RI3o.1.mono (fun b hb hP => ⟨hP.1, hP.2, Nat.ne_of_lt hb⟩)).keep b4, RI3o.2⟩
            have HOF : Hid (∀ b, w3.heap.size ≤ b → ¬ own' b) := Lib.hid (fun b hb hh => by have := (FO3.fresh b hh).2; omega)
            have nab : ab ≠ rb := by omega
            have nat : w.heap.size ≠ rb := by omega
            have n3 : ¬ w3.heap.size = rb := by omega
            have n3b : ¬ rb = w3.heap.size := by omega
            clear hW4 b4 FO3 r3 a3 t3 RI3 RI2 RI3o
            have g0 : W4.cell? ⟨ab, 0, none⟩ = some (.int .i64 1) := by rw [a4.cell]; rfl
            have e0 := (x4.cell 0).trans rfl
            have e1 := (x4.cell 1).trans rfl
            have e2 := (x4.cell 2).trans rfl
            have e3 := (x4.cell 3).trans rfl
            have e4 := (x4.cell 4).trans rfl
            have e5 := (x4.cell 5).trans rfl
            have d0 := (r4.cell 0).trans rfl
            have d1 := (r4.cell 1).trans rfl
            have d2 := (r4.cell 2).trans rfl
            have d3 := (r4.cell 3).trans rfl
            have d4 := (r4.cell 4).trans rfl
            have d5 := (r4.cell 5).trans rfl
            have f0 := r4.frozen 0
            have f1 := r4.frozen 1
            have f2 := r4.frozen 2
            have f3 := r4.frozen 3
            have f4 := r4.frozen 4
            have f5 := r4.frozen 5
            have y0 := x4.frozen 0
            have y1 := x4.frozen 1
            have y2 := x4.frozen 2
            have y3 := x4.frozen 3
            have y4 := x4.frozen 4
            have y5 := x4.frozen 5
            go_upto_region 27 with (fail)
            refine region_name ?_
            rintro W5 hW5
            have far5 : ∀ j, j ≠ w3.heap.size → W5.heap[j]? = W4.heap[j]? := fun j hj => by rw [hW5]; exact set6_block _ _ _ _ _ _ _ _ _ hj
            have sz5 : W4.heap.size ≤ W5.heap.size := by rw [hW5]; simp
            have xx5 : RowAt W5 w3.heap.size 58 [.slice Ao n co, .slice Ag n cg, .slice Ac mc cc, .int .i64 f, .slice An k cn, .slice Ap k cp] := by
              rw [hW5]; exact (((((x4.set_ 0 _).set_ 1 _).set_ 2 _).set_ 3 _).set_ 4 _).set_ 5 _
            have r5 := r4.of_block (far5 rb n3b)
            have a5 := a4.of_block (far5 ab (by omega))
            have t5 := t4.of_block (far5 w.heap.size (by omega))
            have nown : ¬ own' w3.heap.size := fun hh => HOF.out _ (Nat.le_refl _) hh
            have B5 : Below w5.heap.size w5 W5 := by rw [hW5]; exact set6_below FO4.below (by have := HB5.out; omega) _ _ _ _ _ _
            have FO5 := FO4.of_own (fun j hj => far5 j (fun e => nown (e ▸ hj))) sz5 B5
            have RI5 : RefIs (fun b => ¬ own' b ∧ b ≠ rb) W5 (.agg #[.slice Ao n co, .slice Ag n cg, .slice Ac mc cc, .int .i64 f, .slice An k cn, .slice Ap k cp]) n S N := ⟨RI4x.1.blocks sz5 (fun b _ hP => far5 b hP.2.2) |>.mono (fun b _ hP => ⟨hP.1, hP.2.1⟩), RI4x.2⟩
            clear hW5 far5 x4 r4 a4 t4 FO4 RI4 RI4x g0 e0 e1 e2 e3 e4 e5 d0 d1 d2 d3 d4 d5 f0 f1 f2 f3 f4 f5 y0 y1 y2 y3 y4 y5 B5 nown
            have e0 := (xx5.cell 0).trans rfl
            have e1 := (xx5.cell 1).trans rfl
            have e2 := (xx5.cell 2).trans rfl
            have e3 := (xx5.cell 3).trans rfl
            have e4 := (xx5.cell 4).trans rfl
            have e5 := (xx5.cell 5).trans rfl
            have d0 := (r5.cell 0).trans rfl
            have d1 := (r5.cell 1).trans rfl
            have d2 := (r5.cell 2).trans rfl
            have d3 := (r5.cell 3).trans rfl
            have d4 := (r5.cell 4).trans rfl
            have d5 := (r5.cell 5).trans rfl
            have f0 := r5.frozen 0
            have f1 := r5.frozen 1
            have f2 := r5.frozen 2
            have f3 := r5.frozen 3
            have f4 := r5.frozen 4
            have f5 := r5.frozen 5
            go_upto_region 30 with (fail)
            refine region_name ?_
            rintro W7 hW7
            have far : ∀ j, j ≠ rb → W7.heap[j]? = W5.heap[j]? := fun j hj => by rw [hW7]; exact set6_block _ _ _ _ _ _ _ _ _ hj
            have sz7 : W5.heap.size ≤ W7.heap.size := by rw [hW7]; simp
            have r7 : RowAt W7 rb 58 [.slice Ao n co, .slice Ag n cg, .slice Ac mc cc, .int .i64 f, .slice An k cn, .slice Ap k cp] := by
              rw [hW7]; exact (((((r5.set_ 0 _).set_ 1 _).set_ 2 _).set_ 3 _).set_ 4 _).set_ 5 _
            have a7 := a5.of_block (far ab nab)
            have t7 := t5.of_block (far w.heap.size nat)
            have RI7 := RI5.far sz7 far
            have B7 : Below w5.heap.size w5 W7 := by rw [hW7]; exact set6_below FO5.below HB5.out _ _ _ _ _ _
            have FO7 := FO5.of_own (fun j hj => far j (fun e => rb2 (e ▸ hj))) sz7 B7
            have rb7 := rb2
            have HK7 : Hid ((S).O.length = k) := Lib.hid ((RI7.2.len FO7.fi).symm.trans HKN.out)
            clear hW7 far sz7 r5 a5 t5 RI5 B7 FO5 e0 e1 e2 e3 e4 e5 d0 d1 d2 d3 d4 d5 f0 f1 f2 f3 f4 f5 hk'
            have lt1 : rb < W7.heap.size := r7.lt
            have lt2 : ab < W7.heap.size := a7.lt
            have lt3 : w.heap.size < W7.heap.size := t7.lt
            have hS : Hid (∀ W : World, Below W7.heap.size W7 W → (fun W : World => W.cell? ⟨rb, 0, none⟩ = some (.slice Ao n co) ∧ W.cell? ⟨rb, 1, none⟩ = some (.slice Ag n cg) ∧ W.cell? ⟨rb, 2, none⟩ = some (.slice Ac mc cc) ∧ W.cell? ⟨rb, 3, none⟩ = some (.int .i64 f) ∧ W.cell? ⟨rb, 4, none⟩ = some (.slice An k cn) ∧ W.cell? ⟨rb, 5, none⟩ = some (.slice Ap k cp) ∧ W.cell? ⟨ab, 1, none⟩ = some (.int .i64 (-1)) ∧ W.cell? ⟨w.heap.size, 0, none⟩ = some (.int .i64 a) ∧ W.cell? ⟨w.heap.size, 1, none⟩ = some (.int .i64 b)) W) := Lib.hid (fun W hW => ⟨(hW.cell (p := ⟨rb, 0, none⟩) lt1).trans ((r7.cell 0).trans rfl), (hW.cell (p := ⟨rb, 1, none⟩) lt1).trans ((r7.cell 1).trans rfl), (hW.cell (p := ⟨rb, 2, none⟩) lt1).trans ((r7.cell 2).trans rfl), (hW.cell (p := ⟨rb, 3, none⟩) lt1).trans ((r7.cell 3).trans rfl), (hW.cell (p := ⟨rb, 4, none⟩) lt1).trans ((r7.cell 4).trans rfl), (hW.cell (p := ⟨rb, 5, none⟩) lt1).trans ((r7.cell 5).trans rfl), (hW.cell (p := ⟨ab, 1, none⟩) lt2).trans ((a7.cell 1).trans rfl), (hW.cell (p := ⟨w.heap.size, 0, none⟩) lt3).trans ((t7.cell 0).trans rfl), (hW.cell (p := ⟨w.heap.size, 1, none⟩) lt3).trans ((t7.cell 1).trans rfl)⟩)
            have hNle := RI7.2.le FO7.fi
            have KS1 : Hid (∀ W, Below W7.heap.size W7 W → Calls Try.prog 43 #[.pointer (some ⟨Fb, 0, none⟩), .agg #[.slice Ao n co, .slice Ag n cg, .slice Ac mc cc, .int .i64 f, .slice An k cn, .slice Ap k cp], .int .i64 (-1), .int .i64 0] W fun e w' => e = .returned (.bool true) ∧ Below W.heap.size W w') := Lib.hid (fun W hW => law37_same (-1) 0 HX.out (FO7.keep hW) (RI7.1.keep hW) RI7.2 hNle)
            have KS2 : Hid (∀ W, Below W7.heap.size W7 W → Calls Try.prog 43 #[.pointer (some ⟨Fb, 0, none⟩), .agg #[.slice Ao n co, .slice Ag n cg, .slice Ac mc cc, .int .i64 f, .slice An k cn, .slice Ap k cp], .int .i64 a, .int .i64 b] W fun e w' => e = .returned (.bool true) ∧ Below W.heap.size W w') := Lib.hid (fun W hW => law37_same a b HAB.out (FO7.keep hW) (RI7.1.keep hW) RI7.2 hNle)
            have KL : Hid (∀ W, Below W7.heap.size W7 W → Calls Try.prog 44 #[.pointer (some ⟨Fb, 0, none⟩)] W fun e w' => e = .returned (.int .i64 (k : Int)) ∧ Below W.heap.size W w') := Lib.hid (fun W hW => by
              have := to_bel (overf_Len (FO7.keep hW))
              rwa [HK7.out] at this)
            have HFO := Lib.hid FO7
            have HRI := Lib.hid RI7
            have HR7 := Lib.hid r7
            have HRB := Lib.hid rb7
            clear FO7 RI7 r7 a7 t7 rb7 lt1 lt2 lt3 hNle
            refine wp_region_held_drew (S := (fun W : World => W.cell? ⟨rb, 0, none⟩ = some (.slice Ao n co) ∧ W.cell? ⟨rb, 1, none⟩ = some (.slice Ag n cg) ∧ W.cell? ⟨rb, 2, none⟩ = some (.slice Ac mc cc) ∧ W.cell? ⟨rb, 3, none⟩ = some (.int .i64 f) ∧ W.cell? ⟨rb, 4, none⟩ = some (.slice An k cn) ∧ W.cell? ⟨rb, 5, none⟩ = some (.slice Ap k cp) ∧ W.cell? ⟨ab, 1, none⟩ = some (.int .i64 (-1)) ∧ W.cell? ⟨w.heap.size, 0, none⟩ = some (.int .i64 a) ∧ W.cell? ⟨w.heap.size, 1, none⟩ = some (.int .i64 b))) (by kernel_rfl) ?_ (fun hHeld => ?_)
            focus ((try dsimp only); first | exact q | exact hS.out _ (by repeat (first | exact Below.refl _ _ | assumption | refine bel_drew ?_ | refine bel_drewN ?_ _ | refine bel_alloc ?_ _ | refine bel_trans ?_ (by assumption))))
            refine tk_yes 0 (v := ?_) rfl (by kernel_rfl) (by kernel_rfl) (by kernel_rfl) (fun _ _ _ h => h) (by kernel_rfl) (by assumption) ?_ ?_; rotate_left; (focus (intro w hSw; (try dsimp only at hSw); go_simp; (first | done | (with_reducible rfl)))); (try simp only [Act.put, List.setIfInBounds_toArray, List.set_cons_zero, List.set_cons_succ])
            refine tk_yes 1 (v := ?_) rfl (by kernel_rfl) (by kernel_rfl) (by kernel_rfl) (fun _ _ _ h => h) (by kernel_rfl) (by assumption) ?_ ?_; rotate_left; (focus (intro w hSw; (try dsimp only at hSw); go_simp; (first | done | (with_reducible rfl)))); (try simp only [Act.put, List.setIfInBounds_toArray, List.set_cons_zero, List.set_cons_succ])
            refine tk_yes 2 (v := ?_) rfl (by kernel_rfl) (by kernel_rfl) (by kernel_rfl) (fun _ _ _ h => h) (by kernel_rfl) (by assumption) ?_ ?_; rotate_left; (focus (intro w hSw; (try dsimp only at hSw); go_simp; (first | done | (with_reducible rfl)))); (try simp only [Act.put, List.setIfInBounds_toArray, List.set_cons_zero, List.set_cons_succ])
            refine tk_yes 3 (v := ?_) rfl (by kernel_rfl) (by kernel_rfl) (by kernel_rfl) (fun _ _ _ h => h) (by kernel_rfl) (by assumption) ?_ ?_; rotate_left; (focus (intro w hSw; (try dsimp only at hSw); go_simp; (first | done | (with_reducible rfl)))); (try simp only [Act.put, List.setIfInBounds_toArray, List.set_cons_zero, List.set_cons_succ])
            refine tk_call 4 rfl (by kernel_rfl) (by kernel_rfl) (fun KW hKW => ?_); go_simp; go_at_call 43; refine (KS1.out _ (by repeat (first | exact Below.refl _ _ | assumption | refine bel_drew ?_ | refine bel_drewN ?_ _ | refine bel_alloc ?_ _ | refine bel_trans ?_ (by assumption)))).mono ?_; rintro e u4 ⟨rfl, hb4⟩; have B4 := bel_to (W0 := W7) (by repeat (first | exact Below.refl _ _ | assumption | refine bel_drew ?_ | refine bel_drewN ?_ _ | refine bel_alloc ?_ _ | refine bel_trans ?_ (by assumption))) hb4; have q := hS.out _ B4; clear hb4; refine hKW.out _ _ ?_ (fun hHeld => ?_); (focus ((try dsimp only); first | exact q | exact hS.out _ (by repeat (first | exact Below.refl _ _ | assumption | refine bel_drew ?_ | refine bel_drewN ?_ _ | refine bel_alloc ?_ _ | refine bel_trans ?_ (by assumption))))); clear hKW KW; (try simp only [Act.put, List.setIfInBounds_toArray, List.set_cons_zero, List.set_cons_succ])
            refine tk_yes 5 (v := ?_) rfl (by kernel_rfl) (by kernel_rfl) (by kernel_rfl) (fun _ _ _ h => h) (by kernel_rfl) (by assumption) ?_ ?_; rotate_left; (focus (intro w hSw; (try dsimp only at hSw); go_simp; (first | done | (with_reducible rfl)))); (try simp only [Act.put, List.setIfInBounds_toArray, List.set_cons_zero, List.set_cons_succ])
            refine tk_yes 6 (v := ?_) rfl (by kernel_rfl) (by kernel_rfl) (by kernel_rfl) (fun _ _ _ h => h) (by kernel_rfl) (by assumption) ?_ ?_; rotate_left; (focus (intro w hSw; (try dsimp only at hSw); go_simp; (first | done | (with_reducible rfl)))); (try simp only [Act.put, List.setIfInBounds_toArray, List.set_cons_zero, List.set_cons_succ])
            refine tk_yes 7 (v := ?_) rfl (by kernel_rfl) (by kernel_rfl) (by kernel_rfl) (fun _ _ _ h => h) (by kernel_rfl) (by assumption) ?_ ?_; rotate_left; (focus (intro w hSw; (try dsimp only at hSw); go_simp; (first | done | (with_reducible rfl)))); (try simp only [Act.put, List.setIfInBounds_toArray, List.set_cons_zero, List.set_cons_succ])
            refine tk_yes 8 (v := ?_) rfl (by kernel_rfl) (by kernel_rfl) (by kernel_rfl) (fun _ _ _ h => h) (by kernel_rfl) (by assumption) ?_ ?_; rotate_left; (focus (intro w hSw; (try dsimp only at hSw); go_simp; (first | done | (with_reducible rfl)))); (try simp only [Act.put, List.setIfInBounds_toArray, List.set_cons_zero, List.set_cons_succ])
            refine tk_yes 9 (v := ?_) rfl (by kernel_rfl) (by kernel_rfl) (by kernel_rfl) (fun _ _ _ h => h) (by kernel_rfl) (by assumption) ?_ ?_; rotate_left; (focus (intro w hSw; (try dsimp only at hSw); go_simp; (first | done | (with_reducible rfl)))); (try simp only [Act.put, List.setIfInBounds_toArray, List.set_cons_zero, List.set_cons_succ])
            refine tk_yes 10 (v := ?_) rfl (by kernel_rfl) (by kernel_rfl) (by kernel_rfl) (fun _ _ _ h => h) (by kernel_rfl) (by assumption) ?_ ?_; rotate_left; (focus (intro w hSw; (try dsimp only at hSw); go_simp; (first | done | (with_reducible rfl)))); (try simp only [Act.put, List.setIfInBounds_toArray, List.set_cons_zero, List.set_cons_succ])
            refine tk_yes 11 (v := ?_) rfl (by kernel_rfl) (by kernel_rfl) (by kernel_rfl) (fun _ _ _ h => h) (by kernel_rfl) (by assumption) ?_ ?_; rotate_left; (focus (intro w hSw; (try dsimp only at hSw); go_simp; (first | done | (with_reducible rfl)))); (try simp only [Act.put, List.setIfInBounds_toArray, List.set_cons_zero, List.set_cons_succ])
            refine tk_yes 12 (v := ?_) rfl (by kernel_rfl) (by kernel_rfl) (by kernel_rfl) (fun _ _ _ h => h) (by kernel_rfl) (by assumption) ?_ ?_; rotate_left; (focus (intro w hSw; (try dsimp only at hSw); go_simp; (first | done | (with_reducible rfl)))); (try simp only [Act.put, List.setIfInBounds_toArray, List.set_cons_zero, List.set_cons_succ])
            refine tk_call 13 rfl (by kernel_rfl) (by kernel_rfl) (fun KW hKW => ?_); go_simp; go_at_call 43; refine (KS2.out _ (by repeat (first | exact Below.refl _ _ | assumption | refine bel_drew ?_ | refine bel_drewN ?_ _ | refine bel_alloc ?_ _ | refine bel_trans ?_ (by assumption)))).mono ?_; rintro e u13 ⟨rfl, hb13⟩; have B13 := bel_to (W0 := W7) (by repeat (first | exact Below.refl _ _ | assumption | refine bel_drew ?_ | refine bel_drewN ?_ _ | refine bel_alloc ?_ _ | refine bel_trans ?_ (by assumption))) hb13; have q := hS.out _ B13; clear hb13; refine hKW.out _ _ ?_ (fun hHeld => ?_); (focus ((try dsimp only); first | exact q | exact hS.out _ (by repeat (first | exact Below.refl _ _ | assumption | refine bel_drew ?_ | refine bel_drewN ?_ _ | refine bel_alloc ?_ _ | refine bel_trans ?_ (by assumption))))); clear hKW KW; (try simp only [Act.put, List.setIfInBounds_toArray, List.set_cons_zero, List.set_cons_succ])
            refine tk_yes 14 (v := ?_) rfl (by kernel_rfl) (by kernel_rfl) (by kernel_rfl) (fun _ _ _ h => h) (by kernel_rfl) (by assumption) ?_ ?_; rotate_left; (focus (intro w hSw; (try dsimp only at hSw); go_simp; (first | done | (with_reducible rfl)))); (try simp only [Act.put, List.setIfInBounds_toArray, List.set_cons_zero, List.set_cons_succ])
            refine tk_yes 15 (v := ?_) rfl (by kernel_rfl) (by kernel_rfl) (by kernel_rfl) (fun _ _ _ h => h) (by kernel_rfl) (by assumption) ?_ ?_; rotate_left; (focus (intro w hSw; (try dsimp only at hSw); go_simp; (first | done | (with_reducible rfl)))); (try simp only [Act.put, List.setIfInBounds_toArray, List.set_cons_zero, List.set_cons_succ])
            refine tk_yes 16 (v := ?_) rfl (by kernel_rfl) (by kernel_rfl) (by kernel_rfl) (fun _ _ _ h => h) (by kernel_rfl) (by assumption) ?_ ?_; rotate_left; (focus (intro w hSw; (try dsimp only at hSw); go_simp; (first | done | (with_reducible rfl)))); (try simp only [Act.put, List.setIfInBounds_toArray, List.set_cons_zero, List.set_cons_succ])
            refine tk_yes 17 (v := ?_) rfl (by kernel_rfl) (by kernel_rfl) (by kernel_rfl) (fun _ _ _ h => h) (by kernel_rfl) (by assumption) ?_ ?_; rotate_left; (focus (intro w hSw; (try dsimp only at hSw); go_simp; (first | done | (with_reducible rfl)))); (try simp only [Act.put, List.setIfInBounds_toArray, List.set_cons_zero, List.set_cons_succ])
            refine tk_yes 19 (v := ?_) rfl (by kernel_rfl) (by kernel_rfl) (by kernel_rfl) (fun _ _ _ h => h) (by kernel_rfl) (by assumption) ?_ ?_; rotate_left; (focus (intro w hSw; (try dsimp only at hSw); go_simp; (first | done | (with_reducible rfl)))); (try simp only [Act.put, List.setIfInBounds_toArray, List.set_cons_zero, List.set_cons_succ])
            refine tk_yes 20 (v := ?_) rfl (by kernel_rfl) (by kernel_rfl) (by kernel_rfl) (fun _ _ _ h => h) (by kernel_rfl) (by assumption) ?_ ?_; rotate_left; (focus (intro w hSw; (try dsimp only at hSw); go_simp; (first | done | (with_reducible rfl)))); (try simp only [Act.put, List.setIfInBounds_toArray, List.set_cons_zero, List.set_cons_succ])
            refine tk_yes 21 (v := ?_) rfl (by kernel_rfl) (by kernel_rfl) (by kernel_rfl) (fun _ _ _ h => h) (by kernel_rfl) (by assumption) ?_ ?_; rotate_left; (focus (intro w hSw; (try dsimp only at hSw); go_simp; (first | done | (with_reducible rfl)))); (try simp only [Act.put, List.setIfInBounds_toArray, List.set_cons_zero, List.set_cons_succ])
            refine tk_call 18 rfl (by kernel_rfl) (by kernel_rfl) (fun KW hKW => ?_); go_simp; go_at_call 44; refine (KL.out _ (by repeat (first | exact Below.refl _ _ | assumption | refine bel_drew ?_ | refine bel_drewN ?_ _ | refine bel_alloc ?_ _ | refine bel_trans ?_ (by assumption)))).mono ?_; rintro e u18 ⟨rfl, hb18⟩; have B18 := bel_to (W0 := W7) (by repeat (first | exact Below.refl _ _ | assumption | refine bel_drew ?_ | refine bel_drewN ?_ _ | refine bel_alloc ?_ _ | refine bel_trans ?_ (by assumption))) hb18; have q := hS.out _ B18; clear hb18; refine hKW.out _ _ ?_ (fun hHeld => ?_); (focus ((try dsimp only); first | exact q | exact hS.out _ (by repeat (first | exact Below.refl _ _ | assumption | refine bel_drew ?_ | refine bel_drewN ?_ _ | refine bel_alloc ?_ _ | refine bel_trans ?_ (by assumption))))); clear hKW KW; (try simp only [Act.put, List.setIfInBounds_toArray, List.set_cons_zero, List.set_cons_succ])
            refine tk_yes 22 (v := ?_) rfl (by kernel_rfl) (by kernel_rfl) (by kernel_rfl) (fun _ _ _ h => h) (by kernel_rfl) (by assumption) ?_ ?_; rotate_left; (focus (intro w hSw; (try dsimp only at hSw); go_simp; (first | done | (with_reducible rfl)))); (try simp only [Act.put, List.setIfInBounds_toArray, List.set_cons_zero, List.set_cons_succ])
            refine tk_yes 23 (v := ?_) rfl (by kernel_rfl) (by kernel_rfl) (by kernel_rfl) (fun _ _ _ h => h) (by kernel_rfl) (by assumption) ?_ ?_; rotate_left; (focus (intro w hSw; (try dsimp only at hSw); go_simp; (first | done | (with_reducible rfl)))); (try simp only [Act.put, List.setIfInBounds_toArray, List.set_cons_zero, List.set_cons_succ])
            refine wpAnyH_done (by kernel_rfl) ?_ _
            have hj1 := HJ.out
            have hj2 : (j : Int) + 1 ≤ (m : Int) := by omega
            go_wp2_with fail
            go_roundw
            case rel => exact ⟨j + 1, own', S, N, .agg #[.slice Ao n co, .slice Ag n cg, .slice Ac mc cc, .int .i64 f, .slice An k cn, .slice Ap k cp], HJ.out, by go_num, HFO.out.keep B18, HRB.out, HR7.out.keep B18, HRI.out.keep B18⟩
            case measure => simp [intOf]; omega
          · have hq3 : (x == -1) = false := by simpa using hx1
            by_cases hin : x ∈ ints S.O
            · skip
              have hfi := FO1.fi
              have hul := FO1.ulen
              obtain ⟨pv, hpv⟩ : ∃ p, S.tp n = p := ⟨_, rfl⟩
              obtain ⟨gv, hgv⟩ : ∃ p, S.tg n = p := ⟨_, rfl⟩
              obtain ⟨okb, hok⟩ : ∃ p, S.tb n = p := ⟨_, rfl⟩
              obtain ⟨S2, hS2⟩ : ∃ T, S.add n x.toNat x = T := ⟨_, rfl⟩
              have KF : Hid (Calls Try.prog 40 #[.pointer (some ⟨Fb, 0, none⟩), .int .i64 x] W1 fun e w' => e = .returned (.tuple #[.int .i64 pv, .int .i64 gv, .bool okb]) ∧ OverStep w5 W1 own Fb n S2 w') := Lib.hid (by
                have := overf_Child x FO1
                have e1 : S.toldC n x = S.told n := by unfold FSt.toldC; rw [if_pos hin]
                have e2 : S.child n x = S.add n x.toNat x := by unfold FSt.child; rw [if_pos hin]
                rwa [e1, e2, told_eq, hpv, hgv, hok, hS2] at this)
              have KA : Hid (∀ (own' : Nat → Prop) (W : World), RefIs (fun b => ¬ own' b ∧ b ≠ rb) W (.agg #[.slice Ao n co, .slice Ag n cg, .slice Ac mc cc, .int .i64 f, .slice An k cn, .slice Ap k cp]) n S N → (∀ b, W.heap.size ≤ b → ¬ own' b ∧ b ≠ rb) → Calls Try.prog 42 #[.agg #[.slice Ao n co, .slice Ag n cg, .slice Ac mc cc, .int .i64 f, .slice An k cn, .slice Ap k cp], .int .i64 x] W fun e w' => ∃ V' N', e = .returned (.tuple #[V', .int .i64 pv, .int .i64 gv, .bool okb]) ∧ RefIs (fun b => ¬ own' b ∧ b ≠ rb) w' V' n S2 N' ∧ Below W.heap.size W w') := Lib.hid (fun own' W hR hP => by
                have h2 := in_nat.1 hin
                have := refAdd_kid x.toNat h2.2 hfi hul hP hR
                unfold AddIs at this
                rwa [Int.toNat_of_nonneg h2.1, hpv, hgv, hok, hS2] at this)
              clear FO1 hfi hul hpv hgv hok hS2 hin
              go_wp2_with fail
              refine KF.out.mono ?_
              rintro e w2 ⟨rfl, hst⟩
              obtain ⟨own', FO2, RI2, rb2, hblk, sz2⟩ := over_take hst RI1 HRB0.out (by omega)
              have r2 := r1.of_block (hblk rb (by omega) HRB0.out).1
              have a2 := a1.of_block (hblk ab (by omega) (HFR.out ab (Nat.le_refl _))).1
              have t2 := t1.of_block (hblk w.heap.size (by omega) HAT.out).1
              have KA2 := Lib.hid (KA.out own' w2 RI2 (fun b hb => ⟨fun hh => by have := (FO2.fresh b hh).2; omega, by omega⟩))
              clear e0 e1 hst RI1 r1 a1 t1 hblk KF KA
              clear c0
              clear c1
              clear c2
              clear c3
              clear c4
              clear c5
              have c0 : w2.cell? ⟨rb, 0, none⟩ = some (.slice Ao n co) := by rw [r2.cell]; rfl
              have c1 : w2.cell? ⟨rb, 1, none⟩ = some (.slice Ag n cg) := by rw [r2.cell]; rfl
              have c2 : w2.cell? ⟨rb, 2, none⟩ = some (.slice Ac mc cc) := by rw [r2.cell]; rfl
              have c3 : w2.cell? ⟨rb, 3, none⟩ = some (.int .i64 f) := by rw [r2.cell]; rfl
              have c4 : w2.cell? ⟨rb, 4, none⟩ = some (.slice An k cn) := by rw [r2.cell]; rfl
              have c5 : w2.cell? ⟨rb, 5, none⟩ = some (.slice Ap k cp) := by rw [r2.cell]; rfl
              have e0 : w2.cell? ⟨ab, 0, none⟩ = some (.int .i64 1) := by rw [a2.cell]; rfl
              have e1 : w2.cell? ⟨ab, 1, none⟩ = some (.int .i64 x) := by rw [a2.cell]; rfl
              go_wp2_with fail
              refine KA2.out.mono ?_
              rintro e w3 ⟨V', N', rfl, RI3, hb3⟩
              have FO3 := FO2.keep hb3
              have r3 := r2.keep hb3
              have a3 := a2.keep hb3
              have t3 := t2.keep hb3
              have sz3 := hb3.size
              obtain ⟨k', hk'⟩ : ∃ k, N'.length = k := ⟨_, rfl⟩
              
              clear hb3 r2 a2 t2 FO2 e0 e1 c0 c1 c2 c3 c4 c5 KA2
              obtain ⟨Ao', co', Ag', cg', Ac', mc', cc', f', An', cn', Ap', cp', rfl⟩ := RI3.form hk'
              go_upto_region 25 with (fail)
              refine region_name ?_
              rintro W4 hW4
              have b4 : Below w3.heap.size w3 W4 := by rw [hW4]; exact (by repeat (first | exact Below.refl _ _ | assumption | refine bel_drew ?_ | refine bel_drewN ?_ _ | refine bel_alloc ?_ _ | refine bel_set ?_ (by first | (dsimp only; omega) | (simp; done) | (simp; omega)) _ | refine bel_trans ?_ (by assumption)))
              have x4 : RowAt W4 w3.heap.size 58 [.slice Ao' n co', .slice Ag' n cg', .slice Ac' mc' cc', .int .i64 f', .slice An' k' cn', .slice Ap' k' cp'] := by rw [hW4]; exact RowAt.new w3 58 _
              have sz4 : w3.heap.size < W4.heap.size := x4.lt
              have FO4 := FO3.keep b4
              have r4 := r3.keep b4
              have a4 := a3.keep b4
              have t4 := t3.keep b4
              have RI4 := RI3.keep b4
              have nab : ab ≠ rb := by omega
              have nat : w.heap.size ≠ rb := by omega
              have n3 : ¬ w3.heap.size = rb := by omega
              have n3b : ¬ rb = w3.heap.size := by omega
              clear hW4 b4 FO3 r3 a3 t3 RI3 RI2
              have g0 : W4.cell? ⟨ab, 0, none⟩ = some (.int .i64 1) := by rw [a4.cell]; rfl
              have e0 := (x4.cell 0).trans rfl
              have e1 := (x4.cell 1).trans rfl
              have e2 := (x4.cell 2).trans rfl
              have e3 := (x4.cell 3).trans rfl
              have e4 := (x4.cell 4).trans rfl
              have e5 := (x4.cell 5).trans rfl
              have d0 := (r4.cell 0).trans rfl
              have d1 := (r4.cell 1).trans rfl
              have d2 := (r4.cell 2).trans rfl
              have d3 := (r4.cell 3).trans rfl
              have d4 := (r4.cell 4).trans rfl
              have d5 := (r4.cell 5).trans rfl
              have f0 := r4.frozen 0
              have f1 := r4.frozen 1
              have f2 := r4.frozen 2
              have f3 := r4.frozen 3
              have f4 := r4.frozen 4
              have f5 := r4.frozen 5
              go_upto_region 30 with (fail)
              refine region_name ?_
              rintro W7 hW7
              have far : ∀ j, j ≠ rb → W7.heap[j]? = W4.heap[j]? := fun j hj => by rw [hW7]; exact set6_block _ _ _ _ _ _ _ _ _ hj
              have sz7 : W4.heap.size ≤ W7.heap.size := by rw [hW7]; simp
              have r7 : RowAt W7 rb 58 [.slice Ao' n co', .slice Ag' n cg', .slice Ac' mc' cc', .int .i64 f', .slice An' k' cn', .slice Ap' k' cp'] := by
                rw [hW7]; exact (((((r4.set_ 0 _).set_ 1 _).set_ 2 _).set_ 3 _).set_ 4 _).set_ 5 _
              have a7 := a4.of_block (far ab nab)
              have t7 := t4.of_block (far w.heap.size nat)
              have RI7 := RI4.far sz7 far
              have B7 : Below w5.heap.size w5 W7 := by rw [hW7]; exact set6_below FO4.below HB5.out _ _ _ _ _ _
              have FO7 := FO4.of_own (fun j hj => far j (fun e => rb2 (e ▸ hj))) sz7 B7
              have rb7 := rb2
              have HK7 : Hid ((S2).O.length = k') := Lib.hid ((RI7.2.len FO7.fi).symm.trans hk')
              clear hW7 far sz7 r4 a4 t4 RI4 B7 FO4 e0 e1 e2 e3 e4 e5 d0 d1 d2 d3 d4 d5 f0 f1 f2 f3 f4 f5 hk'
              have lt1 : rb < W7.heap.size := r7.lt
              have lt2 : ab < W7.heap.size := a7.lt
              have lt3 : w.heap.size < W7.heap.size := t7.lt
              have hS : Hid (∀ W : World, Below W7.heap.size W7 W → (fun W : World => W.cell? ⟨rb, 0, none⟩ = some (.slice Ao' n co') ∧ W.cell? ⟨rb, 1, none⟩ = some (.slice Ag' n cg') ∧ W.cell? ⟨rb, 2, none⟩ = some (.slice Ac' mc' cc') ∧ W.cell? ⟨rb, 3, none⟩ = some (.int .i64 f') ∧ W.cell? ⟨rb, 4, none⟩ = some (.slice An' k' cn') ∧ W.cell? ⟨rb, 5, none⟩ = some (.slice Ap' k' cp') ∧ W.cell? ⟨ab, 1, none⟩ = some (.int .i64 x) ∧ W.cell? ⟨w.heap.size, 0, none⟩ = some (.int .i64 a) ∧ W.cell? ⟨w.heap.size, 1, none⟩ = some (.int .i64 b)) W) := Lib.hid (fun W hW => ⟨(hW.cell (p := ⟨rb, 0, none⟩) lt1).trans ((r7.cell 0).trans rfl), (hW.cell (p := ⟨rb, 1, none⟩) lt1).trans ((r7.cell 1).trans rfl), (hW.cell (p := ⟨rb, 2, none⟩) lt1).trans ((r7.cell 2).trans rfl), (hW.cell (p := ⟨rb, 3, none⟩) lt1).trans ((r7.cell 3).trans rfl), (hW.cell (p := ⟨rb, 4, none⟩) lt1).trans ((r7.cell 4).trans rfl), (hW.cell (p := ⟨rb, 5, none⟩) lt1).trans ((r7.cell 5).trans rfl), (hW.cell (p := ⟨ab, 1, none⟩) lt2).trans ((a7.cell 1).trans rfl), (hW.cell (p := ⟨w.heap.size, 0, none⟩) lt3).trans ((t7.cell 0).trans rfl), (hW.cell (p := ⟨w.heap.size, 1, none⟩) lt3).trans ((t7.cell 1).trans rfl)⟩)
              have hNle := RI7.2.le FO7.fi
              have KS1 : Hid (∀ W, Below W7.heap.size W7 W → Calls Try.prog 43 #[.pointer (some ⟨Fb, 0, none⟩), .agg #[.slice Ao' n co', .slice Ag' n cg', .slice Ac' mc' cc', .int .i64 f', .slice An' k' cn', .slice Ap' k' cp'], .int .i64 x, .int .i64 0] W fun e w' => e = .returned (.bool true) ∧ Below W.heap.size W w') := Lib.hid (fun W hW => law37_same x 0 HX.out (FO7.keep hW) (RI7.1.keep hW) RI7.2 hNle)
              have KS2 : Hid (∀ W, Below W7.heap.size W7 W → Calls Try.prog 43 #[.pointer (some ⟨Fb, 0, none⟩), .agg #[.slice Ao' n co', .slice Ag' n cg', .slice Ac' mc' cc', .int .i64 f', .slice An' k' cn', .slice Ap' k' cp'], .int .i64 a, .int .i64 b] W fun e w' => e = .returned (.bool true) ∧ Below W.heap.size W w') := Lib.hid (fun W hW => law37_same a b HAB.out (FO7.keep hW) (RI7.1.keep hW) RI7.2 hNle)
              have KL : Hid (∀ W, Below W7.heap.size W7 W → Calls Try.prog 44 #[.pointer (some ⟨Fb, 0, none⟩)] W fun e w' => e = .returned (.int .i64 (k' : Int)) ∧ Below W.heap.size W w') := Lib.hid (fun W hW => by
                have := to_bel (overf_Len (FO7.keep hW))
                rwa [HK7.out] at this)
              have HFO := Lib.hid FO7
              have HRI := Lib.hid RI7
              have HR7 := Lib.hid r7
              have HRB := Lib.hid rb7
              clear FO7 RI7 r7 a7 t7 rb7 lt1 lt2 lt3 hNle
              refine wp_region_held_drew (S := (fun W : World => W.cell? ⟨rb, 0, none⟩ = some (.slice Ao' n co') ∧ W.cell? ⟨rb, 1, none⟩ = some (.slice Ag' n cg') ∧ W.cell? ⟨rb, 2, none⟩ = some (.slice Ac' mc' cc') ∧ W.cell? ⟨rb, 3, none⟩ = some (.int .i64 f') ∧ W.cell? ⟨rb, 4, none⟩ = some (.slice An' k' cn') ∧ W.cell? ⟨rb, 5, none⟩ = some (.slice Ap' k' cp') ∧ W.cell? ⟨ab, 1, none⟩ = some (.int .i64 x) ∧ W.cell? ⟨w.heap.size, 0, none⟩ = some (.int .i64 a) ∧ W.cell? ⟨w.heap.size, 1, none⟩ = some (.int .i64 b))) (by kernel_rfl) ?_ (fun hHeld => ?_)
              focus ((try dsimp only); first | exact q | exact hS.out _ (by repeat (first | exact Below.refl _ _ | assumption | refine bel_drew ?_ | refine bel_drewN ?_ _ | refine bel_alloc ?_ _ | refine bel_trans ?_ (by assumption))))
              refine tk_yes 0 (v := ?_) rfl (by kernel_rfl) (by kernel_rfl) (by kernel_rfl) (fun _ _ _ h => h) (by kernel_rfl) (by assumption) ?_ ?_; rotate_left; (focus (intro w hSw; (try dsimp only at hSw); go_simp; (first | done | (with_reducible rfl)))); (try simp only [Act.put, List.setIfInBounds_toArray, List.set_cons_zero, List.set_cons_succ])
              refine tk_yes 1 (v := ?_) rfl (by kernel_rfl) (by kernel_rfl) (by kernel_rfl) (fun _ _ _ h => h) (by kernel_rfl) (by assumption) ?_ ?_; rotate_left; (focus (intro w hSw; (try dsimp only at hSw); go_simp; (first | done | (with_reducible rfl)))); (try simp only [Act.put, List.setIfInBounds_toArray, List.set_cons_zero, List.set_cons_succ])
              refine tk_yes 2 (v := ?_) rfl (by kernel_rfl) (by kernel_rfl) (by kernel_rfl) (fun _ _ _ h => h) (by kernel_rfl) (by assumption) ?_ ?_; rotate_left; (focus (intro w hSw; (try dsimp only at hSw); go_simp; (first | done | (with_reducible rfl)))); (try simp only [Act.put, List.setIfInBounds_toArray, List.set_cons_zero, List.set_cons_succ])
              refine tk_yes 3 (v := ?_) rfl (by kernel_rfl) (by kernel_rfl) (by kernel_rfl) (fun _ _ _ h => h) (by kernel_rfl) (by assumption) ?_ ?_; rotate_left; (focus (intro w hSw; (try dsimp only at hSw); go_simp; (first | done | (with_reducible rfl)))); (try simp only [Act.put, List.setIfInBounds_toArray, List.set_cons_zero, List.set_cons_succ])
              refine tk_call 4 rfl (by kernel_rfl) (by kernel_rfl) (fun KW hKW => ?_); go_simp; go_at_call 43; refine (KS1.out _ (by repeat (first | exact Below.refl _ _ | assumption | refine bel_drew ?_ | refine bel_drewN ?_ _ | refine bel_alloc ?_ _ | refine bel_trans ?_ (by assumption)))).mono ?_; rintro e u4 ⟨rfl, hb4⟩; have B4 := bel_to (W0 := W7) (by repeat (first | exact Below.refl _ _ | assumption | refine bel_drew ?_ | refine bel_drewN ?_ _ | refine bel_alloc ?_ _ | refine bel_trans ?_ (by assumption))) hb4; have q := hS.out _ B4; clear hb4; refine hKW.out _ _ ?_ (fun hHeld => ?_); (focus ((try dsimp only); first | exact q | exact hS.out _ (by repeat (first | exact Below.refl _ _ | assumption | refine bel_drew ?_ | refine bel_drewN ?_ _ | refine bel_alloc ?_ _ | refine bel_trans ?_ (by assumption))))); clear hKW KW; (try simp only [Act.put, List.setIfInBounds_toArray, List.set_cons_zero, List.set_cons_succ])
              refine tk_yes 5 (v := ?_) rfl (by kernel_rfl) (by kernel_rfl) (by kernel_rfl) (fun _ _ _ h => h) (by kernel_rfl) (by assumption) ?_ ?_; rotate_left; (focus (intro w hSw; (try dsimp only at hSw); go_simp; (first | done | (with_reducible rfl)))); (try simp only [Act.put, List.setIfInBounds_toArray, List.set_cons_zero, List.set_cons_succ])
              refine tk_yes 6 (v := ?_) rfl (by kernel_rfl) (by kernel_rfl) (by kernel_rfl) (fun _ _ _ h => h) (by kernel_rfl) (by assumption) ?_ ?_; rotate_left; (focus (intro w hSw; (try dsimp only at hSw); go_simp; (first | done | (with_reducible rfl)))); (try simp only [Act.put, List.setIfInBounds_toArray, List.set_cons_zero, List.set_cons_succ])
              refine tk_yes 7 (v := ?_) rfl (by kernel_rfl) (by kernel_rfl) (by kernel_rfl) (fun _ _ _ h => h) (by kernel_rfl) (by assumption) ?_ ?_; rotate_left; (focus (intro w hSw; (try dsimp only at hSw); go_simp; (first | done | (with_reducible rfl)))); (try simp only [Act.put, List.setIfInBounds_toArray, List.set_cons_zero, List.set_cons_succ])
              refine tk_yes 8 (v := ?_) rfl (by kernel_rfl) (by kernel_rfl) (by kernel_rfl) (fun _ _ _ h => h) (by kernel_rfl) (by assumption) ?_ ?_; rotate_left; (focus (intro w hSw; (try dsimp only at hSw); go_simp; (first | done | (with_reducible rfl)))); (try simp only [Act.put, List.setIfInBounds_toArray, List.set_cons_zero, List.set_cons_succ])
              refine tk_yes 9 (v := ?_) rfl (by kernel_rfl) (by kernel_rfl) (by kernel_rfl) (fun _ _ _ h => h) (by kernel_rfl) (by assumption) ?_ ?_; rotate_left; (focus (intro w hSw; (try dsimp only at hSw); go_simp; (first | done | (with_reducible rfl)))); (try simp only [Act.put, List.setIfInBounds_toArray, List.set_cons_zero, List.set_cons_succ])
              refine tk_yes 10 (v := ?_) rfl (by kernel_rfl) (by kernel_rfl) (by kernel_rfl) (fun _ _ _ h => h) (by kernel_rfl) (by assumption) ?_ ?_; rotate_left; (focus (intro w hSw; (try dsimp only at hSw); go_simp; (first | done | (with_reducible rfl)))); (try simp only [Act.put, List.setIfInBounds_toArray, List.set_cons_zero, List.set_cons_succ])
              refine tk_yes 11 (v := ?_) rfl (by kernel_rfl) (by kernel_rfl) (by kernel_rfl) (fun _ _ _ h => h) (by kernel_rfl) (by assumption) ?_ ?_; rotate_left; (focus (intro w hSw; (try dsimp only at hSw); go_simp; (first | done | (with_reducible rfl)))); (try simp only [Act.put, List.setIfInBounds_toArray, List.set_cons_zero, List.set_cons_succ])
              refine tk_yes 12 (v := ?_) rfl (by kernel_rfl) (by kernel_rfl) (by kernel_rfl) (fun _ _ _ h => h) (by kernel_rfl) (by assumption) ?_ ?_; rotate_left; (focus (intro w hSw; (try dsimp only at hSw); go_simp; (first | done | (with_reducible rfl)))); (try simp only [Act.put, List.setIfInBounds_toArray, List.set_cons_zero, List.set_cons_succ])
              refine tk_call 13 rfl (by kernel_rfl) (by kernel_rfl) (fun KW hKW => ?_); go_simp; go_at_call 43; refine (KS2.out _ (by repeat (first | exact Below.refl _ _ | assumption | refine bel_drew ?_ | refine bel_drewN ?_ _ | refine bel_alloc ?_ _ | refine bel_trans ?_ (by assumption)))).mono ?_; rintro e u13 ⟨rfl, hb13⟩; have B13 := bel_to (W0 := W7) (by repeat (first | exact Below.refl _ _ | assumption | refine bel_drew ?_ | refine bel_drewN ?_ _ | refine bel_alloc ?_ _ | refine bel_trans ?_ (by assumption))) hb13; have q := hS.out _ B13; clear hb13; refine hKW.out _ _ ?_ (fun hHeld => ?_); (focus ((try dsimp only); first | exact q | exact hS.out _ (by repeat (first | exact Below.refl _ _ | assumption | refine bel_drew ?_ | refine bel_drewN ?_ _ | refine bel_alloc ?_ _ | refine bel_trans ?_ (by assumption))))); clear hKW KW; (try simp only [Act.put, List.setIfInBounds_toArray, List.set_cons_zero, List.set_cons_succ])
              refine tk_yes 14 (v := ?_) rfl (by kernel_rfl) (by kernel_rfl) (by kernel_rfl) (fun _ _ _ h => h) (by kernel_rfl) (by assumption) ?_ ?_; rotate_left; (focus (intro w hSw; (try dsimp only at hSw); go_simp; (first | done | (with_reducible rfl)))); (try simp only [Act.put, List.setIfInBounds_toArray, List.set_cons_zero, List.set_cons_succ])
              refine tk_yes 15 (v := ?_) rfl (by kernel_rfl) (by kernel_rfl) (by kernel_rfl) (fun _ _ _ h => h) (by kernel_rfl) (by assumption) ?_ ?_; rotate_left; (focus (intro w hSw; (try dsimp only at hSw); go_simp; (first | done | (with_reducible rfl)))); (try simp only [Act.put, List.setIfInBounds_toArray, List.set_cons_zero, List.set_cons_succ])
              refine tk_yes 16 (v := ?_) rfl (by kernel_rfl) (by kernel_rfl) (by kernel_rfl) (fun _ _ _ h => h) (by kernel_rfl) (by assumption) ?_ ?_; rotate_left; (focus (intro w hSw; (try dsimp only at hSw); go_simp; (first | done | (with_reducible rfl)))); (try simp only [Act.put, List.setIfInBounds_toArray, List.set_cons_zero, List.set_cons_succ])
              refine tk_yes 17 (v := ?_) rfl (by kernel_rfl) (by kernel_rfl) (by kernel_rfl) (fun _ _ _ h => h) (by kernel_rfl) (by assumption) ?_ ?_; rotate_left; (focus (intro w hSw; (try dsimp only at hSw); go_simp; (first | done | (with_reducible rfl)))); (try simp only [Act.put, List.setIfInBounds_toArray, List.set_cons_zero, List.set_cons_succ])
              refine tk_yes 19 (v := ?_) rfl (by kernel_rfl) (by kernel_rfl) (by kernel_rfl) (fun _ _ _ h => h) (by kernel_rfl) (by assumption) ?_ ?_; rotate_left; (focus (intro w hSw; (try dsimp only at hSw); go_simp; (first | done | (with_reducible rfl)))); (try simp only [Act.put, List.setIfInBounds_toArray, List.set_cons_zero, List.set_cons_succ])
              refine tk_yes 20 (v := ?_) rfl (by kernel_rfl) (by kernel_rfl) (by kernel_rfl) (fun _ _ _ h => h) (by kernel_rfl) (by assumption) ?_ ?_; rotate_left; (focus (intro w hSw; (try dsimp only at hSw); go_simp; (first | done | (with_reducible rfl)))); (try simp only [Act.put, List.setIfInBounds_toArray, List.set_cons_zero, List.set_cons_succ])
              refine tk_yes 21 (v := ?_) rfl (by kernel_rfl) (by kernel_rfl) (by kernel_rfl) (fun _ _ _ h => h) (by kernel_rfl) (by assumption) ?_ ?_; rotate_left; (focus (intro w hSw; (try dsimp only at hSw); go_simp; (first | done | (with_reducible rfl)))); (try simp only [Act.put, List.setIfInBounds_toArray, List.set_cons_zero, List.set_cons_succ])
              refine tk_call 18 rfl (by kernel_rfl) (by kernel_rfl) (fun KW hKW => ?_); go_simp; go_at_call 44; refine (KL.out _ (by repeat (first | exact Below.refl _ _ | assumption | refine bel_drew ?_ | refine bel_drewN ?_ _ | refine bel_alloc ?_ _ | refine bel_trans ?_ (by assumption)))).mono ?_; rintro e u18 ⟨rfl, hb18⟩; have B18 := bel_to (W0 := W7) (by repeat (first | exact Below.refl _ _ | assumption | refine bel_drew ?_ | refine bel_drewN ?_ _ | refine bel_alloc ?_ _ | refine bel_trans ?_ (by assumption))) hb18; have q := hS.out _ B18; clear hb18; refine hKW.out _ _ ?_ (fun hHeld => ?_); (focus ((try dsimp only); first | exact q | exact hS.out _ (by repeat (first | exact Below.refl _ _ | assumption | refine bel_drew ?_ | refine bel_drewN ?_ _ | refine bel_alloc ?_ _ | refine bel_trans ?_ (by assumption))))); clear hKW KW; (try simp only [Act.put, List.setIfInBounds_toArray, List.set_cons_zero, List.set_cons_succ])
              refine tk_yes 22 (v := ?_) rfl (by kernel_rfl) (by kernel_rfl) (by kernel_rfl) (fun _ _ _ h => h) (by kernel_rfl) (by assumption) ?_ ?_; rotate_left; (focus (intro w hSw; (try dsimp only at hSw); go_simp; (first | done | (with_reducible rfl)))); (try simp only [Act.put, List.setIfInBounds_toArray, List.set_cons_zero, List.set_cons_succ])
              refine tk_yes 23 (v := ?_) rfl (by kernel_rfl) (by kernel_rfl) (by kernel_rfl) (fun _ _ _ h => h) (by kernel_rfl) (by assumption) ?_ ?_; rotate_left; (focus (intro w hSw; (try dsimp only at hSw); go_simp; (first | done | (with_reducible rfl)))); (try simp only [Act.put, List.setIfInBounds_toArray, List.set_cons_zero, List.set_cons_succ])
              refine wpAnyH_done (by kernel_rfl) ?_ _
              have hj1 := HJ.out
              have hj2 : (j : Int) + 1 ≤ (m : Int) := by omega
              go_wp2_with fail
              go_roundw
              case rel => exact ⟨j + 1, own', S2, N', .agg #[.slice Ao' n co', .slice Ag' n cg', .slice Ac' mc' cc', .int .i64 f', .slice An' k' cn', .slice Ap' k' cp'], HJ.out, by go_num, HFO.out.keep B18, HRB.out, HR7.out.keep B18, HRI.out.keep B18⟩
              case measure => simp [intOf]; omega
            · skip
              have hfi := FO1.fi
              have hul := FO1.ulen
              have KF : Hid (Calls Try.prog 40 #[.pointer (some ⟨Fb, 0, none⟩), .int .i64 x] W1 fun e w' => e = .returned (.tuple #[.int .i64 0, .int .i64 0, .bool false]) ∧ OverStep w5 W1 own Fb n S w') := Lib.hid (by
                have := overf_Child x FO1
                have e1 : S.toldC n x = .tuple #[.int .i64 0, .int .i64 0, .bool false] := by unfold FSt.toldC; rw [if_neg hin]
                have e2 : S.child n x = S := by unfold FSt.child; rw [if_neg hin]
                rwa [e1, e2] at this)
              have KA : Hid (∀ (own' : Nat → Prop) (W : World), RefIs (fun b => ¬ own' b ∧ b ≠ rb) W (.agg #[.slice Ao n co, .slice Ag n cg, .slice Ac mc cc, .int .i64 f, .slice An k cn, .slice Ap k cp]) n S N → (∀ b, W.heap.size ≤ b → ¬ own' b ∧ b ≠ rb) → Calls Try.prog 42 #[.agg #[.slice Ao n co, .slice Ag n cg, .slice Ac mc cc, .int .i64 f, .slice An k cn, .slice Ap k cp], .int .i64 x] W fun e w' => ∃ V' N', e = .returned (.tuple #[V', .int .i64 0, .int .i64 0, .bool false]) ∧ RefIs (fun b => ¬ own' b ∧ b ≠ rb) w' V' n S N' ∧ Below W.heap.size W w') := Lib.hid (fun own' W hR hP =>
                (refAdd_bad x hx1 hin hR).mono fun e w' hh => ⟨_, N, hh.1, hR.keep hh.2, hh.2⟩)
              clear FO1 hfi hul hin
              go_wp2_with fail
              refine KF.out.mono ?_
              rintro e w2 ⟨rfl, hst⟩
              obtain ⟨own', FO2, RI2, rb2, hblk, sz2⟩ := over_take hst RI1 HRB0.out (by omega)
              have r2 := r1.of_block (hblk rb (by omega) HRB0.out).1
              have a2 := a1.of_block (hblk ab (by omega) (HFR.out ab (Nat.le_refl _))).1
              have t2 := t1.of_block (hblk w.heap.size (by omega) HAT.out).1
              have KA2 := Lib.hid (KA.out own' w2 RI2 (fun b hb => ⟨fun hh => by have := (FO2.fresh b hh).2; omega, by omega⟩))
              clear e0 e1 hst RI1 r1 a1 t1 hblk KF KA
              clear c0
              clear c1
              clear c2
              clear c3
              clear c4
              clear c5
              have c0 : w2.cell? ⟨rb, 0, none⟩ = some (.slice Ao n co) := by rw [r2.cell]; rfl
              have c1 : w2.cell? ⟨rb, 1, none⟩ = some (.slice Ag n cg) := by rw [r2.cell]; rfl
              have c2 : w2.cell? ⟨rb, 2, none⟩ = some (.slice Ac mc cc) := by rw [r2.cell]; rfl
              have c3 : w2.cell? ⟨rb, 3, none⟩ = some (.int .i64 f) := by rw [r2.cell]; rfl
              have c4 : w2.cell? ⟨rb, 4, none⟩ = some (.slice An k cn) := by rw [r2.cell]; rfl
              have c5 : w2.cell? ⟨rb, 5, none⟩ = some (.slice Ap k cp) := by rw [r2.cell]; rfl
              have e0 : w2.cell? ⟨ab, 0, none⟩ = some (.int .i64 1) := by rw [a2.cell]; rfl
              have e1 : w2.cell? ⟨ab, 1, none⟩ = some (.int .i64 x) := by rw [a2.cell]; rfl
              go_wp2_with fail
              refine KA2.out.mono ?_
              rintro e w3 ⟨V', N', rfl, RI3, hb3⟩
              have FO3 := FO2.keep hb3
              have r3 := r2.keep hb3
              have a3 := a2.keep hb3
              have t3 := t2.keep hb3
              have sz3 := hb3.size
              obtain ⟨k', hk'⟩ : ∃ k, N'.length = k := ⟨_, rfl⟩
              
              clear hb3 r2 a2 t2 FO2 e0 e1 c0 c1 c2 c3 c4 c5 KA2
              obtain ⟨Ao', co', Ag', cg', Ac', mc', cc', f', An', cn', Ap', cp', rfl⟩ := RI3.form hk'
              go_upto_region 25 with (fail)
              refine region_name ?_
              rintro W4 hW4
              have b4 : Below w3.heap.size w3 W4 := by rw [hW4]; exact (by repeat (first | exact Below.refl _ _ | assumption | refine bel_drew ?_ | refine bel_drewN ?_ _ | refine bel_alloc ?_ _ | refine bel_set ?_ (by first | (dsimp only; omega) | (simp; done) | (simp; omega)) _ | refine bel_trans ?_ (by assumption)))
              have x4 : RowAt W4 w3.heap.size 58 [.slice Ao' n co', .slice Ag' n cg', .slice Ac' mc' cc', .int .i64 f', .slice An' k' cn', .slice Ap' k' cp'] := by rw [hW4]; exact RowAt.new w3 58 _
              have sz4 : w3.heap.size < W4.heap.size := x4.lt
              have FO4 := FO3.keep b4
              have r4 := r3.keep b4
              have a4 := a3.keep b4
              have t4 := t3.keep b4
              have RI4 := RI3.keep b4
              have nab : ab ≠ rb := by omega
              have nat : w.heap.size ≠ rb := by omega
              have n3 : ¬ w3.heap.size = rb := by omega
              have n3b : ¬ rb = w3.heap.size := by omega
              clear hW4 b4 FO3 r3 a3 t3 RI3 RI2
              have g0 : W4.cell? ⟨ab, 0, none⟩ = some (.int .i64 1) := by rw [a4.cell]; rfl
              have e0 := (x4.cell 0).trans rfl
              have e1 := (x4.cell 1).trans rfl
              have e2 := (x4.cell 2).trans rfl
              have e3 := (x4.cell 3).trans rfl
              have e4 := (x4.cell 4).trans rfl
              have e5 := (x4.cell 5).trans rfl
              have d0 := (r4.cell 0).trans rfl
              have d1 := (r4.cell 1).trans rfl
              have d2 := (r4.cell 2).trans rfl
              have d3 := (r4.cell 3).trans rfl
              have d4 := (r4.cell 4).trans rfl
              have d5 := (r4.cell 5).trans rfl
              have f0 := r4.frozen 0
              have f1 := r4.frozen 1
              have f2 := r4.frozen 2
              have f3 := r4.frozen 3
              have f4 := r4.frozen 4
              have f5 := r4.frozen 5
              go_upto_region 30 with (fail)
              refine region_name ?_
              rintro W7 hW7
              have far : ∀ j, j ≠ rb → W7.heap[j]? = W4.heap[j]? := fun j hj => by rw [hW7]; exact set6_block _ _ _ _ _ _ _ _ _ hj
              have sz7 : W4.heap.size ≤ W7.heap.size := by rw [hW7]; simp
              have r7 : RowAt W7 rb 58 [.slice Ao' n co', .slice Ag' n cg', .slice Ac' mc' cc', .int .i64 f', .slice An' k' cn', .slice Ap' k' cp'] := by
                rw [hW7]; exact (((((r4.set_ 0 _).set_ 1 _).set_ 2 _).set_ 3 _).set_ 4 _).set_ 5 _
              have a7 := a4.of_block (far ab nab)
              have t7 := t4.of_block (far w.heap.size nat)
              have RI7 := RI4.far sz7 far
              have B7 : Below w5.heap.size w5 W7 := by rw [hW7]; exact set6_below FO4.below HB5.out _ _ _ _ _ _
              have FO7 := FO4.of_own (fun j hj => far j (fun e => rb2 (e ▸ hj))) sz7 B7
              have rb7 := rb2
              have HK7 : Hid ((S).O.length = k') := Lib.hid ((RI7.2.len FO7.fi).symm.trans hk')
              clear hW7 far sz7 r4 a4 t4 RI4 B7 FO4 e0 e1 e2 e3 e4 e5 d0 d1 d2 d3 d4 d5 f0 f1 f2 f3 f4 f5 hk'
              have lt1 : rb < W7.heap.size := r7.lt
              have lt2 : ab < W7.heap.size := a7.lt
              have lt3 : w.heap.size < W7.heap.size := t7.lt
              have hS : Hid (∀ W : World, Below W7.heap.size W7 W → (fun W : World => W.cell? ⟨rb, 0, none⟩ = some (.slice Ao' n co') ∧ W.cell? ⟨rb, 1, none⟩ = some (.slice Ag' n cg') ∧ W.cell? ⟨rb, 2, none⟩ = some (.slice Ac' mc' cc') ∧ W.cell? ⟨rb, 3, none⟩ = some (.int .i64 f') ∧ W.cell? ⟨rb, 4, none⟩ = some (.slice An' k' cn') ∧ W.cell? ⟨rb, 5, none⟩ = some (.slice Ap' k' cp') ∧ W.cell? ⟨ab, 1, none⟩ = some (.int .i64 x) ∧ W.cell? ⟨w.heap.size, 0, none⟩ = some (.int .i64 a) ∧ W.cell? ⟨w.heap.size, 1, none⟩ = some (.int .i64 b)) W) := Lib.hid (fun W hW => ⟨(hW.cell (p := ⟨rb, 0, none⟩) lt1).trans ((r7.cell 0).trans rfl), (hW.cell (p := ⟨rb, 1, none⟩) lt1).trans ((r7.cell 1).trans rfl), (hW.cell (p := ⟨rb, 2, none⟩) lt1).trans ((r7.cell 2).trans rfl), (hW.cell (p := ⟨rb, 3, none⟩) lt1).trans ((r7.cell 3).trans rfl), (hW.cell (p := ⟨rb, 4, none⟩) lt1).trans ((r7.cell 4).trans rfl), (hW.cell (p := ⟨rb, 5, none⟩) lt1).trans ((r7.cell 5).trans rfl), (hW.cell (p := ⟨ab, 1, none⟩) lt2).trans ((a7.cell 1).trans rfl), (hW.cell (p := ⟨w.heap.size, 0, none⟩) lt3).trans ((t7.cell 0).trans rfl), (hW.cell (p := ⟨w.heap.size, 1, none⟩) lt3).trans ((t7.cell 1).trans rfl)⟩)
              have hNle := RI7.2.le FO7.fi
              have KS1 : Hid (∀ W, Below W7.heap.size W7 W → Calls Try.prog 43 #[.pointer (some ⟨Fb, 0, none⟩), .agg #[.slice Ao' n co', .slice Ag' n cg', .slice Ac' mc' cc', .int .i64 f', .slice An' k' cn', .slice Ap' k' cp'], .int .i64 x, .int .i64 0] W fun e w' => e = .returned (.bool true) ∧ Below W.heap.size W w') := Lib.hid (fun W hW => law37_same x 0 HX.out (FO7.keep hW) (RI7.1.keep hW) RI7.2 hNle)
              have KS2 : Hid (∀ W, Below W7.heap.size W7 W → Calls Try.prog 43 #[.pointer (some ⟨Fb, 0, none⟩), .agg #[.slice Ao' n co', .slice Ag' n cg', .slice Ac' mc' cc', .int .i64 f', .slice An' k' cn', .slice Ap' k' cp'], .int .i64 a, .int .i64 b] W fun e w' => e = .returned (.bool true) ∧ Below W.heap.size W w') := Lib.hid (fun W hW => law37_same a b HAB.out (FO7.keep hW) (RI7.1.keep hW) RI7.2 hNle)
              have KL : Hid (∀ W, Below W7.heap.size W7 W → Calls Try.prog 44 #[.pointer (some ⟨Fb, 0, none⟩)] W fun e w' => e = .returned (.int .i64 (k' : Int)) ∧ Below W.heap.size W w') := Lib.hid (fun W hW => by
                have := to_bel (overf_Len (FO7.keep hW))
                rwa [HK7.out] at this)
              have HFO := Lib.hid FO7
              have HRI := Lib.hid RI7
              have HR7 := Lib.hid r7
              have HRB := Lib.hid rb7
              clear FO7 RI7 r7 a7 t7 rb7 lt1 lt2 lt3 hNle
              refine wp_region_held_drew (S := (fun W : World => W.cell? ⟨rb, 0, none⟩ = some (.slice Ao' n co') ∧ W.cell? ⟨rb, 1, none⟩ = some (.slice Ag' n cg') ∧ W.cell? ⟨rb, 2, none⟩ = some (.slice Ac' mc' cc') ∧ W.cell? ⟨rb, 3, none⟩ = some (.int .i64 f') ∧ W.cell? ⟨rb, 4, none⟩ = some (.slice An' k' cn') ∧ W.cell? ⟨rb, 5, none⟩ = some (.slice Ap' k' cp') ∧ W.cell? ⟨ab, 1, none⟩ = some (.int .i64 x) ∧ W.cell? ⟨w.heap.size, 0, none⟩ = some (.int .i64 a) ∧ W.cell? ⟨w.heap.size, 1, none⟩ = some (.int .i64 b))) (by kernel_rfl) ?_ (fun hHeld => ?_)
              focus ((try dsimp only); first | exact q | exact hS.out _ (by repeat (first | exact Below.refl _ _ | assumption | refine bel_drew ?_ | refine bel_drewN ?_ _ | refine bel_alloc ?_ _ | refine bel_trans ?_ (by assumption))))
              refine tk_yes 0 (v := ?_) rfl (by kernel_rfl) (by kernel_rfl) (by kernel_rfl) (fun _ _ _ h => h) (by kernel_rfl) (by assumption) ?_ ?_; rotate_left; (focus (intro w hSw; (try dsimp only at hSw); go_simp; (first | done | (with_reducible rfl)))); (try simp only [Act.put, List.setIfInBounds_toArray, List.set_cons_zero, List.set_cons_succ])
              refine tk_yes 1 (v := ?_) rfl (by kernel_rfl) (by kernel_rfl) (by kernel_rfl) (fun _ _ _ h => h) (by kernel_rfl) (by assumption) ?_ ?_; rotate_left; (focus (intro w hSw; (try dsimp only at hSw); go_simp; (first | done | (with_reducible rfl)))); (try simp only [Act.put, List.setIfInBounds_toArray, List.set_cons_zero, List.set_cons_succ])
              refine tk_yes 2 (v := ?_) rfl (by kernel_rfl) (by kernel_rfl) (by kernel_rfl) (fun _ _ _ h => h) (by kernel_rfl) (by assumption) ?_ ?_; rotate_left; (focus (intro w hSw; (try dsimp only at hSw); go_simp; (first | done | (with_reducible rfl)))); (try simp only [Act.put, List.setIfInBounds_toArray, List.set_cons_zero, List.set_cons_succ])
              refine tk_yes 3 (v := ?_) rfl (by kernel_rfl) (by kernel_rfl) (by kernel_rfl) (fun _ _ _ h => h) (by kernel_rfl) (by assumption) ?_ ?_; rotate_left; (focus (intro w hSw; (try dsimp only at hSw); go_simp; (first | done | (with_reducible rfl)))); (try simp only [Act.put, List.setIfInBounds_toArray, List.set_cons_zero, List.set_cons_succ])
              refine tk_call 4 rfl (by kernel_rfl) (by kernel_rfl) (fun KW hKW => ?_); go_simp; go_at_call 43; refine (KS1.out _ (by repeat (first | exact Below.refl _ _ | assumption | refine bel_drew ?_ | refine bel_drewN ?_ _ | refine bel_alloc ?_ _ | refine bel_trans ?_ (by assumption)))).mono ?_; rintro e u4 ⟨rfl, hb4⟩; have B4 := bel_to (W0 := W7) (by repeat (first | exact Below.refl _ _ | assumption | refine bel_drew ?_ | refine bel_drewN ?_ _ | refine bel_alloc ?_ _ | refine bel_trans ?_ (by assumption))) hb4; have q := hS.out _ B4; clear hb4; refine hKW.out _ _ ?_ (fun hHeld => ?_); (focus ((try dsimp only); first | exact q | exact hS.out _ (by repeat (first | exact Below.refl _ _ | assumption | refine bel_drew ?_ | refine bel_drewN ?_ _ | refine bel_alloc ?_ _ | refine bel_trans ?_ (by assumption))))); clear hKW KW; (try simp only [Act.put, List.setIfInBounds_toArray, List.set_cons_zero, List.set_cons_succ])
              refine tk_yes 5 (v := ?_) rfl (by kernel_rfl) (by kernel_rfl) (by kernel_rfl) (fun _ _ _ h => h) (by kernel_rfl) (by assumption) ?_ ?_; rotate_left; (focus (intro w hSw; (try dsimp only at hSw); go_simp; (first | done | (with_reducible rfl)))); (try simp only [Act.put, List.setIfInBounds_toArray, List.set_cons_zero, List.set_cons_succ])
              refine tk_yes 6 (v := ?_) rfl (by kernel_rfl) (by kernel_rfl) (by kernel_rfl) (fun _ _ _ h => h) (by kernel_rfl) (by assumption) ?_ ?_; rotate_left; (focus (intro w hSw; (try dsimp only at hSw); go_simp; (first | done | (with_reducible rfl)))); (try simp only [Act.put, List.setIfInBounds_toArray, List.set_cons_zero, List.set_cons_succ])
              refine tk_yes 7 (v := ?_) rfl (by kernel_rfl) (by kernel_rfl) (by kernel_rfl) (fun _ _ _ h => h) (by kernel_rfl) (by assumption) ?_ ?_; rotate_left; (focus (intro w hSw; (try dsimp only at hSw); go_simp; (first | done | (with_reducible rfl)))); (try simp only [Act.put, List.setIfInBounds_toArray, List.set_cons_zero, List.set_cons_succ])
              refine tk_yes 8 (v := ?_) rfl (by kernel_rfl) (by kernel_rfl) (by kernel_rfl) (fun _ _ _ h => h) (by kernel_rfl) (by assumption) ?_ ?_; rotate_left; (focus (intro w hSw; (try dsimp only at hSw); go_simp; (first | done | (with_reducible rfl)))); (try simp only [Act.put, List.setIfInBounds_toArray, List.set_cons_zero, List.set_cons_succ])
              refine tk_yes 9 (v := ?_) rfl (by kernel_rfl) (by kernel_rfl) (by kernel_rfl) (fun _ _ _ h => h) (by kernel_rfl) (by assumption) ?_ ?_; rotate_left; (focus (intro w hSw; (try dsimp only at hSw); go_simp; (first | done | (with_reducible rfl)))); (try simp only [Act.put, List.setIfInBounds_toArray, List.set_cons_zero, List.set_cons_succ])
              refine tk_yes 10 (v := ?_) rfl (by kernel_rfl) (by kernel_rfl) (by kernel_rfl) (fun _ _ _ h => h) (by kernel_rfl) (by assumption) ?_ ?_; rotate_left; (focus (intro w hSw; (try dsimp only at hSw); go_simp; (first | done | (with_reducible rfl)))); (try simp only [Act.put, List.setIfInBounds_toArray, List.set_cons_zero, List.set_cons_succ])
              refine tk_yes 11 (v := ?_) rfl (by kernel_rfl) (by kernel_rfl) (by kernel_rfl) (fun _ _ _ h => h) (by kernel_rfl) (by assumption) ?_ ?_; rotate_left; (focus (intro w hSw; (try dsimp only at hSw); go_simp; (first | done | (with_reducible rfl)))); (try simp only [Act.put, List.setIfInBounds_toArray, List.set_cons_zero, List.set_cons_succ])
              refine tk_yes 12 (v := ?_) rfl (by kernel_rfl) (by kernel_rfl) (by kernel_rfl) (fun _ _ _ h => h) (by kernel_rfl) (by assumption) ?_ ?_; rotate_left; (focus (intro w hSw; (try dsimp only at hSw); go_simp; (first | done | (with_reducible rfl)))); (try simp only [Act.put, List.setIfInBounds_toArray, List.set_cons_zero, List.set_cons_succ])
              refine tk_call 13 rfl (by kernel_rfl) (by kernel_rfl) (fun KW hKW => ?_); go_simp; go_at_call 43; refine (KS2.out _ (by repeat (first | exact Below.refl _ _ | assumption | refine bel_drew ?_ | refine bel_drewN ?_ _ | refine bel_alloc ?_ _ | refine bel_trans ?_ (by assumption)))).mono ?_; rintro e u13 ⟨rfl, hb13⟩; have B13 := bel_to (W0 := W7) (by repeat (first | exact Below.refl _ _ | assumption | refine bel_drew ?_ | refine bel_drewN ?_ _ | refine bel_alloc ?_ _ | refine bel_trans ?_ (by assumption))) hb13; have q := hS.out _ B13; clear hb13; refine hKW.out _ _ ?_ (fun hHeld => ?_); (focus ((try dsimp only); first | exact q | exact hS.out _ (by repeat (first | exact Below.refl _ _ | assumption | refine bel_drew ?_ | refine bel_drewN ?_ _ | refine bel_alloc ?_ _ | refine bel_trans ?_ (by assumption))))); clear hKW KW; (try simp only [Act.put, List.setIfInBounds_toArray, List.set_cons_zero, List.set_cons_succ])
              refine tk_yes 14 (v := ?_) rfl (by kernel_rfl) (by kernel_rfl) (by kernel_rfl) (fun _ _ _ h => h) (by kernel_rfl) (by assumption) ?_ ?_; rotate_left; (focus (intro w hSw; (try dsimp only at hSw); go_simp; (first | done | (with_reducible rfl)))); (try simp only [Act.put, List.setIfInBounds_toArray, List.set_cons_zero, List.set_cons_succ])
              refine tk_yes 15 (v := ?_) rfl (by kernel_rfl) (by kernel_rfl) (by kernel_rfl) (fun _ _ _ h => h) (by kernel_rfl) (by assumption) ?_ ?_; rotate_left; (focus (intro w hSw; (try dsimp only at hSw); go_simp; (first | done | (with_reducible rfl)))); (try simp only [Act.put, List.setIfInBounds_toArray, List.set_cons_zero, List.set_cons_succ])
              refine tk_yes 16 (v := ?_) rfl (by kernel_rfl) (by kernel_rfl) (by kernel_rfl) (fun _ _ _ h => h) (by kernel_rfl) (by assumption) ?_ ?_; rotate_left; (focus (intro w hSw; (try dsimp only at hSw); go_simp; (first | done | (with_reducible rfl)))); (try simp only [Act.put, List.setIfInBounds_toArray, List.set_cons_zero, List.set_cons_succ])
              refine tk_yes 17 (v := ?_) rfl (by kernel_rfl) (by kernel_rfl) (by kernel_rfl) (fun _ _ _ h => h) (by kernel_rfl) (by assumption) ?_ ?_; rotate_left; (focus (intro w hSw; (try dsimp only at hSw); go_simp; (first | done | (with_reducible rfl)))); (try simp only [Act.put, List.setIfInBounds_toArray, List.set_cons_zero, List.set_cons_succ])
              refine tk_yes 19 (v := ?_) rfl (by kernel_rfl) (by kernel_rfl) (by kernel_rfl) (fun _ _ _ h => h) (by kernel_rfl) (by assumption) ?_ ?_; rotate_left; (focus (intro w hSw; (try dsimp only at hSw); go_simp; (first | done | (with_reducible rfl)))); (try simp only [Act.put, List.setIfInBounds_toArray, List.set_cons_zero, List.set_cons_succ])
              refine tk_yes 20 (v := ?_) rfl (by kernel_rfl) (by kernel_rfl) (by kernel_rfl) (fun _ _ _ h => h) (by kernel_rfl) (by assumption) ?_ ?_; rotate_left; (focus (intro w hSw; (try dsimp only at hSw); go_simp; (first | done | (with_reducible rfl)))); (try simp only [Act.put, List.setIfInBounds_toArray, List.set_cons_zero, List.set_cons_succ])
              refine tk_yes 21 (v := ?_) rfl (by kernel_rfl) (by kernel_rfl) (by kernel_rfl) (fun _ _ _ h => h) (by kernel_rfl) (by assumption) ?_ ?_; rotate_left; (focus (intro w hSw; (try dsimp only at hSw); go_simp; (first | done | (with_reducible rfl)))); (try simp only [Act.put, List.setIfInBounds_toArray, List.set_cons_zero, List.set_cons_succ])
              refine tk_call 18 rfl (by kernel_rfl) (by kernel_rfl) (fun KW hKW => ?_); go_simp; go_at_call 44; refine (KL.out _ (by repeat (first | exact Below.refl _ _ | assumption | refine bel_drew ?_ | refine bel_drewN ?_ _ | refine bel_alloc ?_ _ | refine bel_trans ?_ (by assumption)))).mono ?_; rintro e u18 ⟨rfl, hb18⟩; have B18 := bel_to (W0 := W7) (by repeat (first | exact Below.refl _ _ | assumption | refine bel_drew ?_ | refine bel_drewN ?_ _ | refine bel_alloc ?_ _ | refine bel_trans ?_ (by assumption))) hb18; have q := hS.out _ B18; clear hb18; refine hKW.out _ _ ?_ (fun hHeld => ?_); (focus ((try dsimp only); first | exact q | exact hS.out _ (by repeat (first | exact Below.refl _ _ | assumption | refine bel_drew ?_ | refine bel_drewN ?_ _ | refine bel_alloc ?_ _ | refine bel_trans ?_ (by assumption))))); clear hKW KW; (try simp only [Act.put, List.setIfInBounds_toArray, List.set_cons_zero, List.set_cons_succ])
              refine tk_yes 22 (v := ?_) rfl (by kernel_rfl) (by kernel_rfl) (by kernel_rfl) (fun _ _ _ h => h) (by kernel_rfl) (by assumption) ?_ ?_; rotate_left; (focus (intro w hSw; (try dsimp only at hSw); go_simp; (first | done | (with_reducible rfl)))); (try simp only [Act.put, List.setIfInBounds_toArray, List.set_cons_zero, List.set_cons_succ])
              refine tk_yes 23 (v := ?_) rfl (by kernel_rfl) (by kernel_rfl) (by kernel_rfl) (fun _ _ _ h => h) (by kernel_rfl) (by assumption) ?_ ?_; rotate_left; (focus (intro w hSw; (try dsimp only at hSw); go_simp; (first | done | (with_reducible rfl)))); (try simp only [Act.put, List.setIfInBounds_toArray, List.set_cons_zero, List.set_cons_succ])
              refine wpAnyH_done (by kernel_rfl) ?_ _
              have hj1 := HJ.out
              have hj2 : (j : Int) + 1 ≤ (m : Int) := by omega
              go_wp2_with fail
              go_roundw
              case rel => exact ⟨j + 1, own', S, N', .agg #[.slice Ao' n co', .slice Ag' n cg', .slice Ac' mc' cc', .int .i64 f', .slice An' k' cn', .slice Ap' k' cp'], HJ.out, by go_num, HFO.out.keep B18, HRB.out, HR7.out.keep B18, HRI.out.keep B18⟩
              case measure => simp [intOf]; omega
        · have hq1 : (cv == 1) = false := by simpa using hc1
          have hfi := FO1.fi
          have hul := FO1.ulen
          obtain ⟨pv, hpv⟩ : ∃ p, S.tp n = p := ⟨_, rfl⟩
          obtain ⟨gv, hgv⟩ : ∃ p, S.tg n = p := ⟨_, rfl⟩
          obtain ⟨okb, hok⟩ : ∃ p, S.tb n = p := ⟨_, rfl⟩
          obtain ⟨S2, hS2⟩ : ∃ T, S.add n n (-1) = T := ⟨_, rfl⟩
          have KF : Hid (Calls Try.prog 41 #[.pointer (some ⟨Fb, 0, none⟩)] W1 fun e w' => e = .returned (.tuple #[.int .i64 pv, .int .i64 gv, .bool okb]) ∧ OverStep w5 W1 own Fb n S2 w') := Lib.hid (by
            have := overf_Root FO1
            rwa [told_eq, hpv, hgv, hok, hS2] at this)
          have KA : Hid (∀ (own' : Nat → Prop) (W : World), RefIs (fun b => ¬ own' b ∧ b ≠ rb) W (.agg #[.slice Ao n co, .slice Ag n cg, .slice Ac mc cc, .int .i64 f, .slice An k cn, .slice Ap k cp]) n S N → (∀ b, W.heap.size ≤ b → ¬ own' b ∧ b ≠ rb) → Calls Try.prog 42 #[.agg #[.slice Ao n co, .slice Ag n cg, .slice Ac mc cc, .int .i64 f, .slice An k cn, .slice Ap k cp], .int .i64 (-1)] W fun e w' => ∃ V' N', e = .returned (.tuple #[V', .int .i64 pv, .int .i64 gv, .bool okb]) ∧ RefIs (fun b => ¬ own' b ∧ b ≠ rb) w' V' n S2 N' ∧ Below W.heap.size W w') := Lib.hid (fun own' W hR hP => by
            have := refAdd_root hfi hul hP hR
            unfold AddIs at this
            rwa [hpv, hgv, hok, hS2] at this)
          clear FO1 hfi hul hpv hgv hok hS2
          go_wp2_with fail
          refine KF.out.mono ?_
          rintro e w2 ⟨rfl, hst⟩
          obtain ⟨own', FO2, RI2, rb2, hblk, sz2⟩ := over_take hst RI1 HRB0.out (by omega)
          have r2 := r1.of_block (hblk rb (by omega) HRB0.out).1
          have a2 := a1.of_block (hblk ab (by omega) (HFR.out ab (Nat.le_refl _))).1
          have t2 := t1.of_block (hblk w.heap.size (by omega) HAT.out).1
          have KA2 := Lib.hid (KA.out own' w2 RI2 (fun b hb => ⟨fun hh => by have := (FO2.fresh b hh).2; omega, by omega⟩))
          clear e0 e1 hst RI1 r1 a1 t1 hblk KF KA
          clear c0
          clear c1
          clear c2
          clear c3
          clear c4
          clear c5
          have c0 : w2.cell? ⟨rb, 0, none⟩ = some (.slice Ao n co) := by rw [r2.cell]; rfl
          have c1 : w2.cell? ⟨rb, 1, none⟩ = some (.slice Ag n cg) := by rw [r2.cell]; rfl
          have c2 : w2.cell? ⟨rb, 2, none⟩ = some (.slice Ac mc cc) := by rw [r2.cell]; rfl
          have c3 : w2.cell? ⟨rb, 3, none⟩ = some (.int .i64 f) := by rw [r2.cell]; rfl
          have c4 : w2.cell? ⟨rb, 4, none⟩ = some (.slice An k cn) := by rw [r2.cell]; rfl
          have c5 : w2.cell? ⟨rb, 5, none⟩ = some (.slice Ap k cp) := by rw [r2.cell]; rfl
          have e0 : w2.cell? ⟨ab, 0, none⟩ = some (.int .i64 cv) := by rw [a2.cell]; rfl
          have e1 : w2.cell? ⟨ab, 1, none⟩ = some (.int .i64 x) := by rw [a2.cell]; rfl
          go_wp2_with fail
          refine KA2.out.mono ?_
          rintro e w3 ⟨V', N', rfl, RI3, hb3⟩
          have FO3 := FO2.keep hb3
          have r3 := r2.keep hb3
          have a3 := a2.keep hb3
          have t3 := t2.keep hb3
          have sz3 := hb3.size
          obtain ⟨k', hk'⟩ : ∃ k, N'.length = k := ⟨_, rfl⟩
          
          clear hb3 r2 a2 t2 FO2 e0 e1 c0 c1 c2 c3 c4 c5 KA2
          obtain ⟨Ao', co', Ag', cg', Ac', mc', cc', f', An', cn', Ap', cp', rfl⟩ := RI3.form hk'
          go_upto_region 25 with (fail)
          refine region_name ?_
          rintro W4 hW4
          have b4 : Below w3.heap.size w3 W4 := by rw [hW4]; exact (by repeat (first | exact Below.refl _ _ | assumption | refine bel_drew ?_ | refine bel_drewN ?_ _ | refine bel_alloc ?_ _ | refine bel_set ?_ (by first | (dsimp only; omega) | (simp; done) | (simp; omega)) _ | refine bel_trans ?_ (by assumption)))
          have x4 : RowAt W4 w3.heap.size 58 [.slice Ao' n co', .slice Ag' n cg', .slice Ac' mc' cc', .int .i64 f', .slice An' k' cn', .slice Ap' k' cp'] := by rw [hW4]; exact RowAt.new w3 58 _
          have sz4 : w3.heap.size < W4.heap.size := x4.lt
          have FO4 := FO3.keep b4
          have r4 := r3.keep b4
          have a4 := a3.keep b4
          have t4 := t3.keep b4
          have RI4 := RI3.keep b4
          have nab : ab ≠ rb := by omega
          have nat : w.heap.size ≠ rb := by omega
          have n3 : ¬ w3.heap.size = rb := by omega
          have n3b : ¬ rb = w3.heap.size := by omega
          clear hW4 b4 FO3 r3 a3 t3 RI3 RI2
          have g0 : W4.cell? ⟨ab, 0, none⟩ = some (.int .i64 cv) := by rw [a4.cell]; rfl
          have e0 := (x4.cell 0).trans rfl
          have e1 := (x4.cell 1).trans rfl
          have e2 := (x4.cell 2).trans rfl
          have e3 := (x4.cell 3).trans rfl
          have e4 := (x4.cell 4).trans rfl
          have e5 := (x4.cell 5).trans rfl
          have d0 := (r4.cell 0).trans rfl
          have d1 := (r4.cell 1).trans rfl
          have d2 := (r4.cell 2).trans rfl
          have d3 := (r4.cell 3).trans rfl
          have d4 := (r4.cell 4).trans rfl
          have d5 := (r4.cell 5).trans rfl
          have f0 := r4.frozen 0
          have f1 := r4.frozen 1
          have f2 := r4.frozen 2
          have f3 := r4.frozen 3
          have f4 := r4.frozen 4
          have f5 := r4.frozen 5
          go_upto_region 30 with (fail)
          refine region_name ?_
          rintro W7 hW7
          have far : ∀ j, j ≠ rb → W7.heap[j]? = W4.heap[j]? := fun j hj => by rw [hW7]; exact set6_block _ _ _ _ _ _ _ _ _ hj
          have sz7 : W4.heap.size ≤ W7.heap.size := by rw [hW7]; simp
          have r7 : RowAt W7 rb 58 [.slice Ao' n co', .slice Ag' n cg', .slice Ac' mc' cc', .int .i64 f', .slice An' k' cn', .slice Ap' k' cp'] := by
            rw [hW7]; exact (((((r4.set_ 0 _).set_ 1 _).set_ 2 _).set_ 3 _).set_ 4 _).set_ 5 _
          have a7 := a4.of_block (far ab nab)
          have t7 := t4.of_block (far w.heap.size nat)
          have RI7 := RI4.far sz7 far
          have B7 : Below w5.heap.size w5 W7 := by rw [hW7]; exact set6_below FO4.below HB5.out _ _ _ _ _ _
          have FO7 := FO4.of_own (fun j hj => far j (fun e => rb2 (e ▸ hj))) sz7 B7
          have rb7 := rb2
          have HK7 : Hid ((S2).O.length = k') := Lib.hid ((RI7.2.len FO7.fi).symm.trans hk')
          clear hW7 far sz7 r4 a4 t4 RI4 B7 FO4 e0 e1 e2 e3 e4 e5 d0 d1 d2 d3 d4 d5 f0 f1 f2 f3 f4 f5 hk'
          have lt1 : rb < W7.heap.size := r7.lt
          have lt2 : ab < W7.heap.size := a7.lt
          have lt3 : w.heap.size < W7.heap.size := t7.lt
          have hS : Hid (∀ W : World, Below W7.heap.size W7 W → (fun W : World => W.cell? ⟨rb, 0, none⟩ = some (.slice Ao' n co') ∧ W.cell? ⟨rb, 1, none⟩ = some (.slice Ag' n cg') ∧ W.cell? ⟨rb, 2, none⟩ = some (.slice Ac' mc' cc') ∧ W.cell? ⟨rb, 3, none⟩ = some (.int .i64 f') ∧ W.cell? ⟨rb, 4, none⟩ = some (.slice An' k' cn') ∧ W.cell? ⟨rb, 5, none⟩ = some (.slice Ap' k' cp') ∧ W.cell? ⟨ab, 1, none⟩ = some (.int .i64 x) ∧ W.cell? ⟨w.heap.size, 0, none⟩ = some (.int .i64 a) ∧ W.cell? ⟨w.heap.size, 1, none⟩ = some (.int .i64 b)) W) := Lib.hid (fun W hW => ⟨(hW.cell (p := ⟨rb, 0, none⟩) lt1).trans ((r7.cell 0).trans rfl), (hW.cell (p := ⟨rb, 1, none⟩) lt1).trans ((r7.cell 1).trans rfl), (hW.cell (p := ⟨rb, 2, none⟩) lt1).trans ((r7.cell 2).trans rfl), (hW.cell (p := ⟨rb, 3, none⟩) lt1).trans ((r7.cell 3).trans rfl), (hW.cell (p := ⟨rb, 4, none⟩) lt1).trans ((r7.cell 4).trans rfl), (hW.cell (p := ⟨rb, 5, none⟩) lt1).trans ((r7.cell 5).trans rfl), (hW.cell (p := ⟨ab, 1, none⟩) lt2).trans ((a7.cell 1).trans rfl), (hW.cell (p := ⟨w.heap.size, 0, none⟩) lt3).trans ((t7.cell 0).trans rfl), (hW.cell (p := ⟨w.heap.size, 1, none⟩) lt3).trans ((t7.cell 1).trans rfl)⟩)
          have hNle := RI7.2.le FO7.fi
          have KS1 : Hid (∀ W, Below W7.heap.size W7 W → Calls Try.prog 43 #[.pointer (some ⟨Fb, 0, none⟩), .agg #[.slice Ao' n co', .slice Ag' n cg', .slice Ac' mc' cc', .int .i64 f', .slice An' k' cn', .slice Ap' k' cp'], .int .i64 x, .int .i64 0] W fun e w' => e = .returned (.bool true) ∧ Below W.heap.size W w') := Lib.hid (fun W hW => law37_same x 0 HX.out (FO7.keep hW) (RI7.1.keep hW) RI7.2 hNle)
          have KS2 : Hid (∀ W, Below W7.heap.size W7 W → Calls Try.prog 43 #[.pointer (some ⟨Fb, 0, none⟩), .agg #[.slice Ao' n co', .slice Ag' n cg', .slice Ac' mc' cc', .int .i64 f', .slice An' k' cn', .slice Ap' k' cp'], .int .i64 a, .int .i64 b] W fun e w' => e = .returned (.bool true) ∧ Below W.heap.size W w') := Lib.hid (fun W hW => law37_same a b HAB.out (FO7.keep hW) (RI7.1.keep hW) RI7.2 hNle)
          have KL : Hid (∀ W, Below W7.heap.size W7 W → Calls Try.prog 44 #[.pointer (some ⟨Fb, 0, none⟩)] W fun e w' => e = .returned (.int .i64 (k' : Int)) ∧ Below W.heap.size W w') := Lib.hid (fun W hW => by
            have := to_bel (overf_Len (FO7.keep hW))
            rwa [HK7.out] at this)
          have HFO := Lib.hid FO7
          have HRI := Lib.hid RI7
          have HR7 := Lib.hid r7
          have HRB := Lib.hid rb7
          clear FO7 RI7 r7 a7 t7 rb7 lt1 lt2 lt3 hNle
          refine wp_region_held_drew (S := (fun W : World => W.cell? ⟨rb, 0, none⟩ = some (.slice Ao' n co') ∧ W.cell? ⟨rb, 1, none⟩ = some (.slice Ag' n cg') ∧ W.cell? ⟨rb, 2, none⟩ = some (.slice Ac' mc' cc') ∧ W.cell? ⟨rb, 3, none⟩ = some (.int .i64 f') ∧ W.cell? ⟨rb, 4, none⟩ = some (.slice An' k' cn') ∧ W.cell? ⟨rb, 5, none⟩ = some (.slice Ap' k' cp') ∧ W.cell? ⟨ab, 1, none⟩ = some (.int .i64 x) ∧ W.cell? ⟨w.heap.size, 0, none⟩ = some (.int .i64 a) ∧ W.cell? ⟨w.heap.size, 1, none⟩ = some (.int .i64 b))) (by kernel_rfl) ?_ (fun hHeld => ?_)
          focus ((try dsimp only); first | exact q | exact hS.out _ (by repeat (first | exact Below.refl _ _ | assumption | refine bel_drew ?_ | refine bel_drewN ?_ _ | refine bel_alloc ?_ _ | refine bel_trans ?_ (by assumption))))
          refine tk_yes 0 (v := ?_) rfl (by kernel_rfl) (by kernel_rfl) (by kernel_rfl) (fun _ _ _ h => h) (by kernel_rfl) (by assumption) ?_ ?_; rotate_left; (focus (intro w hSw; (try dsimp only at hSw); go_simp; (first | done | (with_reducible rfl)))); (try simp only [Act.put, List.setIfInBounds_toArray, List.set_cons_zero, List.set_cons_succ])
          refine tk_yes 1 (v := ?_) rfl (by kernel_rfl) (by kernel_rfl) (by kernel_rfl) (fun _ _ _ h => h) (by kernel_rfl) (by assumption) ?_ ?_; rotate_left; (focus (intro w hSw; (try dsimp only at hSw); go_simp; (first | done | (with_reducible rfl)))); (try simp only [Act.put, List.setIfInBounds_toArray, List.set_cons_zero, List.set_cons_succ])
          refine tk_yes 2 (v := ?_) rfl (by kernel_rfl) (by kernel_rfl) (by kernel_rfl) (fun _ _ _ h => h) (by kernel_rfl) (by assumption) ?_ ?_; rotate_left; (focus (intro w hSw; (try dsimp only at hSw); go_simp; (first | done | (with_reducible rfl)))); (try simp only [Act.put, List.setIfInBounds_toArray, List.set_cons_zero, List.set_cons_succ])
          refine tk_yes 3 (v := ?_) rfl (by kernel_rfl) (by kernel_rfl) (by kernel_rfl) (fun _ _ _ h => h) (by kernel_rfl) (by assumption) ?_ ?_; rotate_left; (focus (intro w hSw; (try dsimp only at hSw); go_simp; (first | done | (with_reducible rfl)))); (try simp only [Act.put, List.setIfInBounds_toArray, List.set_cons_zero, List.set_cons_succ])
          refine tk_call 4 rfl (by kernel_rfl) (by kernel_rfl) (fun KW hKW => ?_); go_simp; go_at_call 43; refine (KS1.out _ (by repeat (first | exact Below.refl _ _ | assumption | refine bel_drew ?_ | refine bel_drewN ?_ _ | refine bel_alloc ?_ _ | refine bel_trans ?_ (by assumption)))).mono ?_; rintro e u4 ⟨rfl, hb4⟩; have B4 := bel_to (W0 := W7) (by repeat (first | exact Below.refl _ _ | assumption | refine bel_drew ?_ | refine bel_drewN ?_ _ | refine bel_alloc ?_ _ | refine bel_trans ?_ (by assumption))) hb4; have q := hS.out _ B4; clear hb4; refine hKW.out _ _ ?_ (fun hHeld => ?_); (focus ((try dsimp only); first | exact q | exact hS.out _ (by repeat (first | exact Below.refl _ _ | assumption | refine bel_drew ?_ | refine bel_drewN ?_ _ | refine bel_alloc ?_ _ | refine bel_trans ?_ (by assumption))))); clear hKW KW; (try simp only [Act.put, List.setIfInBounds_toArray, List.set_cons_zero, List.set_cons_succ])
          refine tk_yes 5 (v := ?_) rfl (by kernel_rfl) (by kernel_rfl) (by kernel_rfl) (fun _ _ _ h => h) (by kernel_rfl) (by assumption) ?_ ?_; rotate_left; (focus (intro w hSw; (try dsimp only at hSw); go_simp; (first | done | (with_reducible rfl)))); (try simp only [Act.put, List.setIfInBounds_toArray, List.set_cons_zero, List.set_cons_succ])
          refine tk_yes 6 (v := ?_) rfl (by kernel_rfl) (by kernel_rfl) (by kernel_rfl) (fun _ _ _ h => h) (by kernel_rfl) (by assumption) ?_ ?_; rotate_left; (focus (intro w hSw; (try dsimp only at hSw); go_simp; (first | done | (with_reducible rfl)))); (try simp only [Act.put, List.setIfInBounds_toArray, List.set_cons_zero, List.set_cons_succ])
          refine tk_yes 7 (v := ?_) rfl (by kernel_rfl) (by kernel_rfl) (by kernel_rfl) (fun _ _ _ h => h) (by kernel_rfl) (by assumption) ?_ ?_; rotate_left; (focus (intro w hSw; (try dsimp only at hSw); go_simp; (first | done | (with_reducible rfl)))); (try simp only [Act.put, List.setIfInBounds_toArray, List.set_cons_zero, List.set_cons_succ])
          refine tk_yes 8 (v := ?_) rfl (by kernel_rfl) (by kernel_rfl) (by kernel_rfl) (fun _ _ _ h => h) (by kernel_rfl) (by assumption) ?_ ?_; rotate_left; (focus (intro w hSw; (try dsimp only at hSw); go_simp; (first | done | (with_reducible rfl)))); (try simp only [Act.put, List.setIfInBounds_toArray, List.set_cons_zero, List.set_cons_succ])
          refine tk_yes 9 (v := ?_) rfl (by kernel_rfl) (by kernel_rfl) (by kernel_rfl) (fun _ _ _ h => h) (by kernel_rfl) (by assumption) ?_ ?_; rotate_left; (focus (intro w hSw; (try dsimp only at hSw); go_simp; (first | done | (with_reducible rfl)))); (try simp only [Act.put, List.setIfInBounds_toArray, List.set_cons_zero, List.set_cons_succ])
          refine tk_yes 10 (v := ?_) rfl (by kernel_rfl) (by kernel_rfl) (by kernel_rfl) (fun _ _ _ h => h) (by kernel_rfl) (by assumption) ?_ ?_; rotate_left; (focus (intro w hSw; (try dsimp only at hSw); go_simp; (first | done | (with_reducible rfl)))); (try simp only [Act.put, List.setIfInBounds_toArray, List.set_cons_zero, List.set_cons_succ])
          refine tk_yes 11 (v := ?_) rfl (by kernel_rfl) (by kernel_rfl) (by kernel_rfl) (fun _ _ _ h => h) (by kernel_rfl) (by assumption) ?_ ?_; rotate_left; (focus (intro w hSw; (try dsimp only at hSw); go_simp; (first | done | (with_reducible rfl)))); (try simp only [Act.put, List.setIfInBounds_toArray, List.set_cons_zero, List.set_cons_succ])
          refine tk_yes 12 (v := ?_) rfl (by kernel_rfl) (by kernel_rfl) (by kernel_rfl) (fun _ _ _ h => h) (by kernel_rfl) (by assumption) ?_ ?_; rotate_left; (focus (intro w hSw; (try dsimp only at hSw); go_simp; (first | done | (with_reducible rfl)))); (try simp only [Act.put, List.setIfInBounds_toArray, List.set_cons_zero, List.set_cons_succ])
          refine tk_call 13 rfl (by kernel_rfl) (by kernel_rfl) (fun KW hKW => ?_); go_simp; go_at_call 43; refine (KS2.out _ (by repeat (first | exact Below.refl _ _ | assumption | refine bel_drew ?_ | refine bel_drewN ?_ _ | refine bel_alloc ?_ _ | refine bel_trans ?_ (by assumption)))).mono ?_; rintro e u13 ⟨rfl, hb13⟩; have B13 := bel_to (W0 := W7) (by repeat (first | exact Below.refl _ _ | assumption | refine bel_drew ?_ | refine bel_drewN ?_ _ | refine bel_alloc ?_ _ | refine bel_trans ?_ (by assumption))) hb13; have q := hS.out _ B13; clear hb13; refine hKW.out _ _ ?_ (fun hHeld => ?_); (focus ((try dsimp only); first | exact q | exact hS.out _ (by repeat (first | exact Below.refl _ _ | assumption | refine bel_drew ?_ | refine bel_drewN ?_ _ | refine bel_alloc ?_ _ | refine bel_trans ?_ (by assumption))))); clear hKW KW; (try simp only [Act.put, List.setIfInBounds_toArray, List.set_cons_zero, List.set_cons_succ])
          refine tk_yes 14 (v := ?_) rfl (by kernel_rfl) (by kernel_rfl) (by kernel_rfl) (fun _ _ _ h => h) (by kernel_rfl) (by assumption) ?_ ?_; rotate_left; (focus (intro w hSw; (try dsimp only at hSw); go_simp; (first | done | (with_reducible rfl)))); (try simp only [Act.put, List.setIfInBounds_toArray, List.set_cons_zero, List.set_cons_succ])
          refine tk_yes 15 (v := ?_) rfl (by kernel_rfl) (by kernel_rfl) (by kernel_rfl) (fun _ _ _ h => h) (by kernel_rfl) (by assumption) ?_ ?_; rotate_left; (focus (intro w hSw; (try dsimp only at hSw); go_simp; (first | done | (with_reducible rfl)))); (try simp only [Act.put, List.setIfInBounds_toArray, List.set_cons_zero, List.set_cons_succ])
          refine tk_yes 16 (v := ?_) rfl (by kernel_rfl) (by kernel_rfl) (by kernel_rfl) (fun _ _ _ h => h) (by kernel_rfl) (by assumption) ?_ ?_; rotate_left; (focus (intro w hSw; (try dsimp only at hSw); go_simp; (first | done | (with_reducible rfl)))); (try simp only [Act.put, List.setIfInBounds_toArray, List.set_cons_zero, List.set_cons_succ])
          refine tk_yes 17 (v := ?_) rfl (by kernel_rfl) (by kernel_rfl) (by kernel_rfl) (fun _ _ _ h => h) (by kernel_rfl) (by assumption) ?_ ?_; rotate_left; (focus (intro w hSw; (try dsimp only at hSw); go_simp; (first | done | (with_reducible rfl)))); (try simp only [Act.put, List.setIfInBounds_toArray, List.set_cons_zero, List.set_cons_succ])
          refine tk_yes 19 (v := ?_) rfl (by kernel_rfl) (by kernel_rfl) (by kernel_rfl) (fun _ _ _ h => h) (by kernel_rfl) (by assumption) ?_ ?_; rotate_left; (focus (intro w hSw; (try dsimp only at hSw); go_simp; (first | done | (with_reducible rfl)))); (try simp only [Act.put, List.setIfInBounds_toArray, List.set_cons_zero, List.set_cons_succ])
          refine tk_yes 20 (v := ?_) rfl (by kernel_rfl) (by kernel_rfl) (by kernel_rfl) (fun _ _ _ h => h) (by kernel_rfl) (by assumption) ?_ ?_; rotate_left; (focus (intro w hSw; (try dsimp only at hSw); go_simp; (first | done | (with_reducible rfl)))); (try simp only [Act.put, List.setIfInBounds_toArray, List.set_cons_zero, List.set_cons_succ])
          refine tk_yes 21 (v := ?_) rfl (by kernel_rfl) (by kernel_rfl) (by kernel_rfl) (fun _ _ _ h => h) (by kernel_rfl) (by assumption) ?_ ?_; rotate_left; (focus (intro w hSw; (try dsimp only at hSw); go_simp; (first | done | (with_reducible rfl)))); (try simp only [Act.put, List.setIfInBounds_toArray, List.set_cons_zero, List.set_cons_succ])
          refine tk_call 18 rfl (by kernel_rfl) (by kernel_rfl) (fun KW hKW => ?_); go_simp; go_at_call 44; refine (KL.out _ (by repeat (first | exact Below.refl _ _ | assumption | refine bel_drew ?_ | refine bel_drewN ?_ _ | refine bel_alloc ?_ _ | refine bel_trans ?_ (by assumption)))).mono ?_; rintro e u18 ⟨rfl, hb18⟩; have B18 := bel_to (W0 := W7) (by repeat (first | exact Below.refl _ _ | assumption | refine bel_drew ?_ | refine bel_drewN ?_ _ | refine bel_alloc ?_ _ | refine bel_trans ?_ (by assumption))) hb18; have q := hS.out _ B18; clear hb18; refine hKW.out _ _ ?_ (fun hHeld => ?_); (focus ((try dsimp only); first | exact q | exact hS.out _ (by repeat (first | exact Below.refl _ _ | assumption | refine bel_drew ?_ | refine bel_drewN ?_ _ | refine bel_alloc ?_ _ | refine bel_trans ?_ (by assumption))))); clear hKW KW; (try simp only [Act.put, List.setIfInBounds_toArray, List.set_cons_zero, List.set_cons_succ])
          refine tk_yes 22 (v := ?_) rfl (by kernel_rfl) (by kernel_rfl) (by kernel_rfl) (fun _ _ _ h => h) (by kernel_rfl) (by assumption) ?_ ?_; rotate_left; (focus (intro w hSw; (try dsimp only at hSw); go_simp; (first | done | (with_reducible rfl)))); (try simp only [Act.put, List.setIfInBounds_toArray, List.set_cons_zero, List.set_cons_succ])
          refine tk_yes 23 (v := ?_) rfl (by kernel_rfl) (by kernel_rfl) (by kernel_rfl) (fun _ _ _ h => h) (by kernel_rfl) (by assumption) ?_ ?_; rotate_left; (focus (intro w hSw; (try dsimp only at hSw); go_simp; (first | done | (with_reducible rfl)))); (try simp only [Act.put, List.setIfInBounds_toArray, List.set_cons_zero, List.set_cons_succ])
          refine wpAnyH_done (by kernel_rfl) ?_ _
          have hj1 := HJ.out
          have hj2 : (j : Int) + 1 ≤ (m : Int) := by omega
          go_wp2_with fail
          go_roundw
          case rel => exact ⟨j + 1, own', S2, N', .agg #[.slice Ao' n co', .slice Ag' n cg', .slice Ac' mc' cc', .int .i64 f', .slice An' k' cn', .slice Ap' k' cp'], HJ.out, by go_num, HFO.out.keep B18, HRB.out, HR7.out.keep B18, HRI.out.keep B18⟩
          case measure => simp [intOf]; omega
    · have ltr := r0.lt
      have hS : Hid (∀ W : World, Below wr.heap.size wr W → (fun W : World => W.cell? ⟨rb, 0, none⟩ = some (.slice Ao n co) ∧ W.cell? ⟨rb, 1, none⟩ = some (.slice Ag n cg) ∧ W.cell? ⟨rb, 2, none⟩ = some (.slice Ac mc cc) ∧ W.cell? ⟨rb, 3, none⟩ = some (.int .i64 f) ∧ W.cell? ⟨rb, 4, none⟩ = some (.slice An k cn) ∧ W.cell? ⟨rb, 5, none⟩ = some (.slice Ap k cp)) W) := Lib.hid (fun W hW => ⟨(hW.cell (p := ⟨rb, 0, none⟩) ltr).trans ((r0.cell 0).trans rfl), (hW.cell (p := ⟨rb, 1, none⟩) ltr).trans ((r0.cell 1).trans rfl), (hW.cell (p := ⟨rb, 2, none⟩) ltr).trans ((r0.cell 2).trans rfl), (hW.cell (p := ⟨rb, 3, none⟩) ltr).trans ((r0.cell 3).trans rfl), (hW.cell (p := ⟨rb, 4, none⟩) ltr).trans ((r0.cell 4).trans rfl), (hW.cell (p := ⟨rb, 5, none⟩) ltr).trans ((r0.cell 5).trans rfl)⟩)
      have KR : Hid (∀ W, Below wr.heap.size wr W → Calls Try.prog 46 #[.pointer (some ⟨Fb, 0, none⟩)] W (GivesInts W (ints (S.R n)))) := Lib.hid (fun W hW => overf_Roots (FO.keep hW))
      have hNle := RI.2.le FO.fi
      have KC : Hid (∀ W, Below wr.heap.size wr W → Calls Try.prog 47 #[.agg #[.slice Ao n co, .slice Ag n cg, .slice Ac mc cc, .int .i64 f, .slice An k cn, .slice Ap k cp], .int .i64 (-1)] W (GivesInts W (ints (S.R n)))) := Lib.hid (fun W hW => by
        have := ref37_Children (-1) (by omega) (RI.1.keep hW)
        rwa [← RI.2.root] at this)
      have BW := Lib.hid (bel_trans D5.out FO.below)
      clear r0 t0 FO RI hNle ltr hj
      go_upto_region 32 with (fail)
      refine wp_region_held_drew (S := (fun W : World => W.cell? ⟨rb, 0, none⟩ = some (.slice Ao n co) ∧ W.cell? ⟨rb, 1, none⟩ = some (.slice Ag n cg) ∧ W.cell? ⟨rb, 2, none⟩ = some (.slice Ac mc cc) ∧ W.cell? ⟨rb, 3, none⟩ = some (.int .i64 f) ∧ W.cell? ⟨rb, 4, none⟩ = some (.slice An k cn) ∧ W.cell? ⟨rb, 5, none⟩ = some (.slice Ap k cp))) (by kernel_rfl) ?_ (fun hHeld => ?_)
      focus ((try dsimp only); first | exact q | exact hS.out _ (by repeat (first | exact Below.refl _ _ | assumption | refine bel_drew ?_ | refine bel_drewN ?_ _ | refine bel_alloc ?_ _ | refine bel_trans ?_ (by assumption))))
      refine tk_yes 0 (v := ?_) rfl (by kernel_rfl) (by kernel_rfl) (by kernel_rfl) (fun _ _ _ h => h) (by kernel_rfl) (by assumption) ?_ ?_; rotate_left; (focus (intro w hSw; (try dsimp only at hSw); go_simp; (first | done | (with_reducible rfl)))); (try simp only [Act.put, List.setIfInBounds_toArray, List.set_cons_zero, List.set_cons_succ])
      refine tk_yes 2 (v := ?_) rfl (by kernel_rfl) (by kernel_rfl) (by kernel_rfl) (fun _ _ _ h => h) (by kernel_rfl) (by assumption) ?_ ?_; rotate_left; (focus (intro w hSw; (try dsimp only at hSw); go_simp; (first | done | (with_reducible rfl)))); (try simp only [Act.put, List.setIfInBounds_toArray, List.set_cons_zero, List.set_cons_succ])
      refine tk_call 1 rfl (by kernel_rfl) (by kernel_rfl) (fun KW hKW => ?_); go_simp; go_at_call 46; refine (KR.out _ (by repeat (first | exact Below.refl _ _ | assumption | refine bel_drew ?_ | refine bel_drewN ?_ _ | refine bel_alloc ?_ _ | refine bel_trans ?_ (by assumption)))).mono ?_; rintro e u1 ⟨A1, n1, c1, rfl, i1, hb1⟩; have B1 := bel_to (W0 := wr) (by repeat (first | exact Below.refl _ _ | assumption | refine bel_drew ?_ | refine bel_drewN ?_ _ | refine bel_alloc ?_ _ | refine bel_trans ?_ (by assumption))) hb1; have q := hS.out _ B1; have I1 := Lib.hid i1.1; clear i1; clear hb1; refine hKW.out _ _ ?_ (fun hHeld => ?_); (focus ((try dsimp only); first | exact q | exact hS.out _ (by repeat (first | exact Below.refl _ _ | assumption | refine bel_drew ?_ | refine bel_drewN ?_ _ | refine bel_alloc ?_ _ | refine bel_trans ?_ (by assumption))))); clear hKW KW; (try simp only [Act.put, List.setIfInBounds_toArray, List.set_cons_zero, List.set_cons_succ])
      refine tk_call 3 rfl (by kernel_rfl) (by kernel_rfl) (fun KW hKW => ?_); go_simp; go_at_call 47; refine (KC.out _ (by repeat (first | exact Below.refl _ _ | assumption | refine bel_drew ?_ | refine bel_drewN ?_ _ | refine bel_alloc ?_ _ | refine bel_trans ?_ (by assumption)))).mono ?_; rintro e u3 ⟨A3, n3, c3, rfl, i3, hb3⟩; have B3 := bel_to (W0 := wr) (by repeat (first | exact Below.refl _ _ | assumption | refine bel_drew ?_ | refine bel_drewN ?_ _ | refine bel_alloc ?_ _ | refine bel_trans ?_ (by assumption))) hb3; have q := hS.out _ B3; have I3 := Lib.hid i3.1; have I1b := Lib.hid (I1.out.keep hb3); clear i3; clear hb3; refine hKW.out _ _ ?_ (fun hHeld => ?_); (focus ((try dsimp only); first | exact q | exact hS.out _ (by repeat (first | exact Below.refl _ _ | assumption | refine bel_drew ?_ | refine bel_drewN ?_ _ | refine bel_alloc ?_ _ | refine bel_trans ?_ (by assumption))))); clear hKW KW; (try simp only [Act.put, List.setIfInBounds_toArray, List.set_cons_zero, List.set_cons_succ])
      refine tk_call 4 rfl (by kernel_rfl) (by kernel_rfl) (fun KW hKW => ?_); go_simp; go_at_call 45; refine (base_SameInts c1 c3 I1b.out I3.out).mono ?_; rw [decide_eq_true rfl]; rintro e u4 ⟨rfl, hb4⟩; have B4 := bel_to (W0 := wr) (by repeat (first | exact Below.refl _ _ | assumption | refine bel_drew ?_ | refine bel_drewN ?_ _ | refine bel_alloc ?_ _ | refine bel_trans ?_ (by assumption))) hb4; have q := hS.out _ B4; clear hb4; refine hKW.out _ _ ?_ (fun hHeld => ?_); (focus ((try dsimp only); first | exact q | exact hS.out _ (by repeat (first | exact Below.refl _ _ | assumption | refine bel_drew ?_ | refine bel_drewN ?_ _ | refine bel_alloc ?_ _ | refine bel_trans ?_ (by assumption))))); clear hKW KW; (try simp only [Act.put, List.setIfInBounds_toArray, List.set_cons_zero, List.set_cons_succ])
      refine tk_yes 5 (v := ?_) rfl (by kernel_rfl) (by kernel_rfl) (by kernel_rfl) (fun _ _ _ h => h) (by kernel_rfl) (by assumption) ?_ ?_; rotate_left; (focus (intro w hSw; (try dsimp only at hSw); go_simp; (first | done | (with_reducible rfl)))); (try simp only [Act.put, List.setIfInBounds_toArray, List.set_cons_zero, List.set_cons_succ])
      refine tk_call 6 rfl (by kernel_rfl) (by kernel_rfl) (fun KW hKW => ?_); go_simp; go_at_call 35; refine (law37_works _).mono ?_; rintro e u6 ⟨rfl, hb6⟩; have B6 := bel_to (W0 := wr) (by repeat (first | exact Below.refl _ _ | assumption | refine bel_drew ?_ | refine bel_drewN ?_ _ | refine bel_alloc ?_ _ | refine bel_trans ?_ (by assumption))) hb6; have q := hS.out _ B6; clear hb6; refine hKW.out _ _ ?_ (fun hHeld => ?_); (focus ((try dsimp only); first | exact q | exact hS.out _ (by repeat (first | exact Below.refl _ _ | assumption | refine bel_drew ?_ | refine bel_drewN ?_ _ | refine bel_alloc ?_ _ | refine bel_trans ?_ (by assumption))))); clear hKW KW; (try simp only [Act.put, List.setIfInBounds_toArray, List.set_cons_zero, List.set_cons_succ])
      refine tk_yes 7 (v := ?_) rfl (by kernel_rfl) (by kernel_rfl) (by kernel_rfl) (fun _ _ _ h => h) (by kernel_rfl) (by assumption) ?_ ?_; rotate_left; (focus (intro w hSw; (try dsimp only at hSw); go_simp; (first | done | (with_reducible rfl)))); (try simp only [Act.put, List.setIfInBounds_toArray, List.set_cons_zero, List.set_cons_succ])
      refine tk_yes 8 (v := ?_) rfl (by kernel_rfl) (by kernel_rfl) (by kernel_rfl) (fun _ _ _ h => h) (by kernel_rfl) (by assumption) ?_ ?_; rotate_left; (focus (intro w hSw; (try dsimp only at hSw); go_simp; (first | done | (with_reducible rfl)))); (try simp only [Act.put, List.setIfInBounds_toArray, List.set_cons_zero, List.set_cons_succ])
      refine wpAnyH_done (by kernel_rfl) ?_ _
      go_wp2_with fail
      go_ret
      exact ⟨rfl, bel_trans BW.out B6⟩
end Go.Proofs.Ytdhcmnbajkpjiaa
/-
  NodePlays, whole.
-/
namespace Go.Proofs.Ytdhcmnbajkpjiaa
open Go.RowKit
set_option linter.unusedVariables false
theorem law37_NodePlays (x : Int) (A : Option Addr) (m c : Nat) (D : Nat → Nat → Int) (a b : Int) (w : World) (hA : Fr.IsRows w 2 A m c D) (hm : m ≤ 9223372036854775807) (hab : BdI a) :
    Calls Try.prog 7 #[.int .i64 x, .slice A m c, .agg #[.int .i64 a, .int .i64 b]] w fun e w' => e = .returned (.bool true) ∧ Below w.heap.size w w' := by
  by_cases h1 : 60 < m
  · exact law37_NodePlays_w1 A x m c a b w (by omega)
  · by_cases h2 : x < 0
    · exact law37_NodePlays_n1 A x m c a b w (by omega) h2 (by omega)
    · by_cases h3 : 4096 < x
      · exact law37_NodePlays_n2 A x m c a b w (by omega) h3 (by omega) (by omega)
      · by_cases h4 : 100 < x
        · exact law37_NodePlays_w2 A x m c a b w (by omega) h4 (by omega)
        · obtain ⟨n, rfl⟩ : ∃ n : Nat, x = n := ⟨x.toNat, by omega⟩
          exact law37_NodePlays_run A n m c a b w D hA (by omega) (by omega) hab
end Go.Proofs.Ytdhcmnbajkpjiaa
/-
  An opener for a slice of bytes.
-/
namespace Go.Proofs.Ytdhcmnbajkpjiaa.Fr
open Go.ChangeShapes Go.WideShapes Go.ChangeAt Go.RowKit Go.Deep

section
variable {H : Type} {enc : TypeId × Value → H} {P : Program} {w : World}
theorem open_bytes {t e : Nat} {a : Option Addr} {len cap : Nat} {d : DataW H} {ps : List MemPlace} {base : Nat} (ht : P.underlying t = some (.slice e)) (he : P.underlying e = some (.int .u8)) (hS : P.cellsOf e = 1)
    (h : DataW.Trod enc P w 0 (fun _ => true) true t (.slice a len cap) d ps) (hv : Value.okWide P w .any base t (.slice a len cap)) : ∃ xs, BytesAt w a len xs := by
  obtain ⟨fuel, hf⟩ := h
  rcases open_slice ht hf with ⟨hcs, _⟩ | ⟨x, l, c, m, n, D, Pl, hcs, hb, hl, hm, hmm, hx, hi⟩
  · simp [Value.cells] at hcs
    obtain ⟨rfl, rfl, rfl⟩ := hcs
    exact ⟨[], rfl, by omega, by simp, fun h => absurd h (by omega)⟩
  · simp [Value.cells] at hcs
    obtain ⟨rfl, rfl, rfl⟩ := hcs
    simp only [if_true] at hmm
    subst hmm
    have hsp : x.spot = none := by
      unfold Value.okWide at hv
      rw [ht] at hv
      simp only at hv
      unfold Cell.okWide at hv
      rw [ht] at hv
      simp only at hv
      unfold Cell.ok at hv
      rw [ht] at hv
      simp only at hv
      exact hv.2.2.2.1
    obtain ⟨b, off, spot⟩ := x
    simp only at hsp
    subst hsp
    have key : ∀ i, i < m → ∃ v : Int, w.cell? ⟨b, off + i, none⟩ = some (.int .u8 v) ∧ 0 ≤ v ∧ v < 256 := by
      intro i him
      obtain ⟨cs', hc, ht'⟩ := hi i him
      rw [hS] at hc
      obtain ⟨n, rfl, _, hw⟩ := DataW.trod_int he ht'
      obtain ⟨_, _, hat⟩ := World.cells?_some hc
      have hcell := hat 0 (by omega)
      refine ⟨n, ?_, ?_⟩
      · have e : w.cell? ⟨b, off + i, none⟩ = [Value.int .u8 n][0]? := by
          rw [← hcell]
          congr 1
          simp only [Addr.add]
          split <;> simp_all
        rw [e]; rfl
      · have := bounds_u8 hw
        omega
    refine ⟨(List.range len).map (fun i => match w.cell? ⟨b, off + i, none⟩ with | some (.int _ n) => n | _ => 0), by simp, by unfold maxLen at hm; omega, ?_, fun hn => ⟨b, off, rfl, ?_, ?_⟩⟩
    · intro y hy
      obtain ⟨i, hi1, rfl⟩ := List.mem_map.1 hy
      obtain ⟨v, hv', hb'⟩ := key i (by have := List.mem_range.1 hi1; omega)
      simp only [hv']
      exact hb'
    · obtain ⟨v, hv', _⟩ := key 0 (by omega)
      exact World.block_lt_of_cell? _ _ hv'
    · intro i hil
      obtain ⟨v, hv', hb'⟩ := key i (by omega)
      simp [List.getD, hil, hv']
end
end Go.Proofs.Ytdhcmnbajkpjiaa.Fr
