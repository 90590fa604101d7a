/-
  order.taken's iterator.
-/
import Derived.Test.YthmjbfocpdiikaaMemC
import Derived.Test.YthmjbfocpdiikaaRangeX
import Derived.Deep.OwnRows
import Derived.StillTailTactics
import Derived.Deep.Cut
namespace Go.Proofs.Ythmjbfocpdiikaa
open Go.RowKit
set_option linter.unusedVariables false
set_option linter.unusedSimpArgs false
attribute [local go_sem] drewN_alloc drewN_setCell Oper.semAt_some

theorem MemAt.keepB {w w' : World} {A : Option Addr} {n : Nat} {l : List PO.Mem} (h : MemAt w A n l) (hs : w.heap.size ≤ w'.heap.size) (hk : ∀ b off, A = some ⟨b, off, none⟩ → 0 < n → b < w.heap.size → w'.heap[b]? = w.heap[b]?) : MemAt w' A n l :=
  ⟨h.1, h.2.1, h.2.2.1, fun hn => by
    obtain ⟨b, off, e, hb, hc⟩ := h.2.2.2 hn
    have hb' := hk b off e hn hb
    have key : ∀ o, w'.cell? ⟨b, o, none⟩ = w.cell? ⟨b, o, none⟩ := fun o => World.cell?_of_block (w := w) hb'
    exact ⟨b, off, e, Nat.lt_of_lt_of_le hb hs, fun i hi => ⟨(key _).trans (hc i hi).1, (key _).trans (hc i hi).2.1, (key _).trans (hc i hi).2.2.1, (key _).trans (hc i hi).2.2.2⟩⟩⟩

/-- How many are not done, as the array in block d tells. -/
def leftB (d n : Nat) (w : World) : Nat := (List.range n).countP (fun j => match w.cell? ⟨d, j, none⟩ with | some (.bool false) => true | _ => false)
theorem countP_less {p q : Nat → Bool} : ∀ (l : List Nat), (∀ x ∈ l, p x = true → q x = true) → ∀ i ∈ l, q i = true → p i = false → l.countP p < l.countP q
  | [], _, i, hi, _, _ => by simp at hi
  | a :: t, h, i, hi, hq, hp => by
    have hm : t.countP p ≤ t.countP q := List.countP_mono_left (fun x hx => h x (List.mem_cons_of_mem _ hx))
    rw [List.countP_cons, List.countP_cons]
    by_cases e : a = i
    · subst e
      rw [hq, hp]
      simp
      omega
    · have hi' : i ∈ t := by
        rcases List.mem_cons.1 hi with h1 | h1
        · exact absurd h1.symm e
        · exact h1
      have ih := countP_less t (fun x hx => h x (List.mem_cons_of_mem _ hx)) i hi' hq hp
      have ha := h a List.mem_cons_self
      cases hpa : p a <;> cases hqa : q a <;> simp_all <;> omega
theorem leftB_less {d n i : Nat} {w w' : World} {done : List Nat} (h : DoneAt w d n done) (h' : DoneAt w' d n (done ++ [i])) (hi : i < n) (hn : i ∉ done) : leftB d n w' < leftB d n w := by
  refine countP_less _ (fun x hx hp => ?_) i (by simpa using hi) ?_ ?_
  · have hx' : x < n := by simpa using hx
    rw [h' x hx'] at hp
    rw [h x hx']
    by_cases hm : x ∈ done
    · simp [hm] at hp
    · simp [hm]
  · rw [h i hi]; simp [hn]
  · rw [h' i hi]; simp

theorem grownBy_set (w : World) (p : Addr) (u : Value) : w.grownBy (w.setCell p u) (some p.block) := ⟨rfl, rfl, rfl, by simp, fun k _ hk => Below.heap_setCell _ _ _ _ (fun e => hk (by rw [e]))⟩
theorem grownBy_drew (w : World) : w.grownBy w.drew none := ⟨rfl, rfl, rfl, Nat.le_refl _, fun _ _ _ => rfl⟩
def IterRel (W : World) (A : Option Addr) (n c lb fb : Nat) (l : List PO.Mem) (R : List Nat) (J : List (Nat × Int) → World → Prop) (i : Value) (wr : World) : Prop :=
  ∃ (k : Nat) (f : Int) (pre : List (Nat × Int)) (done : List Nat), pre.map (·.1) = done ∧ J pre wr ∧ i = .int .i64 (nextI f l done) ∧ wr.cell? ⟨fb, 0, none⟩ = some (.int .i64 f) ∧ wr.frozen? ⟨fb, 0, none⟩ = false ∧
    wr.cell? ⟨lb, 0, none⟩ = some (.slice A n c) ∧ wr.cell? ⟨W.heap.size + 1, 0, none⟩ = some (.slice (some ⟨W.heap.size, 0, none⟩) n n) ∧ DoneAt wr W.heap.size n done ∧ (∀ j, wr.frozen? ⟨W.heap.size, j, none⟩ = false) ∧
    MemAt wr A n l ∧ PO.Good l k f done ∧ PO.taken l k f done = R ∧ W.heap.size + 1 < wr.heap.size

/-- What a round of the caller leaves as it lay. -/
def KeepsIt (W : World) (A : Option Addr) (n lb fb : Nat) (X Y : World) : Prop :=
  X.heap.size ≤ Y.heap.size ∧ ∀ k, k < X.heap.size → (k = fb ∨ k = lb ∨ k = W.heap.size ∨ k = W.heap.size + 1 ∨ (0 < n ∧ ∃ off, A = some ⟨k, off, none⟩)) → Y.heap[k]? = X.heap[k]?

set_option maxRecDepth 100000 in
set_option maxHeartbeats 8000000 in
theorem taken_iter {A : Option Addr} {n : Nat} {l : List PO.Mem} (c lb fb L : Nat) (f : Int) {W : World} (h : MemAt W A n l) (hn : n ≤ 1000) (hm : PO.may f l = true)
    (cl : W.cell? ⟨lb, 0, none⟩ = some (.slice A n c)) (cf : W.cell? ⟨fb, 0, none⟩ = some (.int .i64 f)) (ff : W.frozen? ⟨fb, 0, none⟩ = false) (hne : lb ≠ fb) (hA : 0 < n → ∀ b off, A = some ⟨b, off, none⟩ → b ≠ fb)
    (Kp : World → World → Prop) (hKp : ∀ X Y, Kp X Y → KeepsIt W A n lb fb X Y) :
    IterGives Try.prog 94 #[.pointer (some ⟨lb, 0, none⟩), .pointer (some ⟨fb, 0, none⟩)] (fun x : Nat × Int => #[.int .i64 (x.1 : Int), .int .i64 x.2]) (fun r => r = fb ∨ r = W.heap.size ∨ r = W.heap.size + 1) Kp
      (fun xs => xs.map (·.1) = PO.takenAll f l) L (W.heap.size + 2) n W := by
  intro J hJ hY h0
  show Calls Try.prog 94 #[.func (.yield L) #[] #[], .pointer (some ⟨lb, 0, none⟩), .pointer (some ⟨fb, 0, none⟩)] W _
  obtain ⟨R, hR⟩ : ∃ R, PO.takenAll f l = R := ⟨_, rfl⟩
  rw [hR]
  have hinfo : (Try.prog.info? 4).map (fun i => (i.zero, i.size, i.bytes)) = some (some (.bool false), 1, 1) := by kernel_rfl
  have hmk := run_make_row' (P := Try.prog) 95 4 (.bool false) 1 Try.underlying95 hinfo rfl .i64 .i64 n (by omega) (by omega)
  obtain ⟨Z, hZ⟩ : ∃ Z, madeCells #[Value.bool false] n = Z := ⟨_, rfl⟩
  rw [hZ] at hmk
  obtain ⟨V, hV⟩ : ∃ V, (W.alloc (.cells Z 4)).alloc (.cells #[.slice (some ⟨W.heap.size, 0, none⟩) n n] 95) = V := ⟨_, rfl⟩
  have hbV : Below W.heap.size W V := by rw [← hV]; exact (by repeat (first | exact Below.refl _ _ | assumption | refine bel_drew ?_ | refine bel_drewN ?_ _ | refine bel_alloc ?_ _ | refine bel_set ?_ (by first | (dsimp only; omega) | (simp; done) | (simp; omega)) _ | refine bel_trans ?_ (by assumption)))
  have sV : W.heap.size + 1 < V.heap.size := by rw [← hV]; simp
  have sl := World.block_lt_of_cell? _ _ cl
  have sf := World.block_lt_of_cell? _ _ cf
  dsimp only at sl sf
  have vl := (hbV.cell (p := ⟨lb, 0, none⟩) sl).trans cl
  have vf := (hbV.cell (p := ⟨fb, 0, none⟩) sf).trans cf
  have vff := (hbV.frozen (p := ⟨fb, 0, none⟩) sf).trans ff
  have vd : V.cell? ⟨W.heap.size + 1, 0, none⟩ = some (.slice (some ⟨W.heap.size, 0, none⟩) n n) := by rw [← hV]; simp [go_sem]
  have vD : DoneAt V W.heap.size n [] := fun j hj => by
    rw [← hV, World.cell?_alloc_lt _ _ _ (by simp)]
    have : (W.alloc (.cells Z 4)).cell? ⟨W.heap.size, j, none⟩ = Z[j]? := by simp [go_sem]
    rw [this, ← hZ]
    simp [madeCells, hj, Nat.mod_one]
  have vDf : ∀ j, V.frozen? ⟨W.heap.size, j, none⟩ = false := fun j => by rw [← hV]; simp [go_sem]
  have vM := h.keep hbV
  have hJV : J [] V := by
    rw [← hV]
    exact hJ _ _ _ none (hJ _ _ _ none h0 (World.grownBy_alloc _ _ _) (fun r e => by cases e)) (World.grownBy_alloc _ _ _) (fun r e => by cases e)
  have hst := PO.good_start hm
  have HA : Hid (l.all PO.ok = true) := Lib.hid (PO.may_iff.1 hm).2.2
  have K0 := Lib.hid (taken_next c lb (W.heap.size + 1) fb W.heap.size f [] vM vl vd vf vD)
  replace hV := Lib.hid hV
  have HY := Lib.hid hY
  have HJ := Lib.hid hJ
  have HKP := Lib.hid hKp
  have HX := Lib.hid h.1
  have HR := Lib.hid hR
  have H0 : Hid (∀ wr, Below V.heap.size V wr → IterRel W A n c lb fb l R J (.int .i64 (nextI f l [])) wr) := Lib.hid (fun wr hb => by
    have hb' : ∀ o, V.cell? o = V.cell? o := fun _ => rfl
    exact ⟨l.length, f, [], [], rfl, hJ _ _ _ none hJV ⟨hb.os, hb.tape, hb.output, hb.size, fun i hi _ => hb.block i hi⟩ (fun r e => by cases e), rfl, (hb.cell (p := ⟨fb, 0, none⟩) (by dsimp only; omega)).trans vf, (hb.frozen (p := ⟨fb, 0, none⟩) (by dsimp only; omega)).trans vff,
      (hb.cell (p := ⟨lb, 0, none⟩) (by dsimp only; omega)).trans vl, (hb.cell (p := ⟨W.heap.size + 1, 0, none⟩) sV).trans vd, fun j hj => (hb.cell (p := ⟨W.heap.size, j, none⟩) (by dsimp only; omega)).trans (vD j hj), fun j => (hb.frozen (p := ⟨W.heap.size, j, none⟩) (by dsimp only; omega)).trans (vDf j),
      vM.keep hb, hst, hR, Nat.lt_of_lt_of_le sV hb.size⟩)
  have HAB : Hid (0 < n → ∃ b off, A = some ⟨b, off, none⟩ ∧ b < W.heap.size ∧ b ≠ fb) := Lib.hid (fun h0 => by
    obtain ⟨b, off, e, hb, _⟩ := h.2.2.2 h0
    exact ⟨b, off, e, hb, hA h0 b off e⟩)
  clear hA
  clear hY hJ hKp vl vf vff vd vD vDf vM hJV hst h hm hR hZ cf ff h0 hinfo
  go_enter Try.func94, Try.ntmps94
  go_wp2_with fail
  rw [hV.out]
  refine K0.out.mono ?_
  rintro e w1 ⟨rfl, h1⟩
  go_wp2_with fail
  go_loopw [6] (fun i wr => IterRel W A n c lb fb l R J i wr) (fun _ wr => leftB W.heap.size n wr)
  case atStart => exact H0.out _ h1
  case round =>
    obtain ⟨k, f, pre, done, hpre, hJs, rfl, yf, yff, yl, yd, yD, yDf, yM, hg, ht, hsz⟩ := hrel
    cases hnx : PO.next f l done with
    | none =>
      have e : nextI f l done = -1 := by unfold nextI; rw [hnx]
      rw [e]
      have HE : Hid (pre.map (·.1) = R) := Lib.hid (by rw [hpre, ← ht, PO.taken_none hnx])
      have HJS := Lib.hid hJs
      clear hpre hJs yf yff yl yd yD yDf yM hg ht hnx e
      go_wp2_with fail
      go_end0
      exact ⟨⟨_, rfl⟩, pre, HE.out, HJS.out⟩
    | some i0 =>
      have e : nextI f l done = (i0 : Int) := by unfold nextI; rw [hnx]
      rw [e]
      obtain ⟨n1, n2, n3, _⟩ := PO.next_some.1 hnx
      have hi0 : i0 < n := by rw [← HX.out]; exact n1
      obtain ⟨b, off, rfl, hb, hbf⟩ := HAB.out (by omega)
      obtain ⟨b', off', e', hb', hcs⟩ := yM.2.2.2 (by omega)
      obtain ⟨rfl, rfl⟩ : b = b' ∧ off = off' := by simpa using e'
      obtain ⟨x0, x1, x2, x3⟩ := hcs i0 hi0
      obtain ⟨m, hmm⟩ : ∃ m, l.getD i0 PO.m0 = m := ⟨_, rfl⟩
      have hok := PO.ok_held (PO.ok_get HA.out n1)
      rw [hmm] at x0 x1 x2 x3 hok
      obtain ⟨k1, k2⟩ := hok
      obtain ⟨k', rfl, hg'⟩ := PO.good_next HA.out hg hnx
      have ht' := (PO.taken_some hnx).symm.trans ht
      rw [hmm] at hg' ht'
      have hf0 : 0 ≤ f := hg.2.2.2.1
      have hpl : Hid (pre.length < n) := Lib.hid (by have e1 := congrArg List.length hpre; rw [List.length_map] at e1; have := hg.2.2.1; have := HX.out; omega)
      have hf1 : f ≤ 2000000000 := by have := hg.2.2.2.2; have := hg.2.2.1; have := HX.out; omega
      have wf : IntKind.i64.wrap (f + m.2.2.1) = f + m.2.2.1 := IntWalk.i64_in _ (by omega)
      have j0 : (0 : Int) ≤ (i0 : Int) := by omega
      have j1 : (i0 : Int) < (n : Int) := by omega
      have yd0 := yD i0 hi0
      have ydf := yDf i0
      have HNX := Lib.hid hnx
      have HG' := Lib.hid hg'
      have HT' := Lib.hid ht'
      have HPRE := Lib.hid hpre
      have HJS := Lib.hid hJs
      have HYD := Lib.hid yD
      have HYDF := Lib.hid yDf
      have HYM := Lib.hid yM
      have HCS := Lib.hid hcs
      have hn1 := Lib.hid n1
      have hn2 := Lib.hid n2
      clear e n1 n2 n3 e' hcs hmm hg hg' ht ht' hnx hpre hJs yD yDf yM
      go_wp2_with fail
      obtain ⟨V1, hV1⟩ : ∃ V1, wr.setCell ⟨W.heap.size, i0, none⟩ (.bool true) = V1 := ⟨_, rfl⟩
      have far : ∀ p : Addr, p.block ≠ W.heap.size → V1.cell? p = wr.cell? p := fun p hp => by rw [← hV1]; exact World.cell?_setCell_other _ _ _ _ (by rintro rfl; exact hp rfl)
      have z0 := (far ⟨fb, 0, none⟩ (by dsimp only; omega)).trans yf
      have z1 := (far ⟨lb, 0, none⟩ (by dsimp only; omega)).trans yl
      have z2 := (far ⟨b, off + i0 * 4 + 2, none⟩ (by dsimp only; omega)).trans x2
      have zf : V1.frozen? ⟨fb, 0, none⟩ = false := by rw [← hV1]; simpa [go_sem] using yff
      rw [hV1]
      have hcd : ∀ a, ({ heap := V1.heap, tape := V1.tape, drawn := V1.drawn + 1, os := V1.os, output := V1.output } : World).cell? a = V1.cell? a := fun _ => rfl
      have hcf : ∀ a, ({ heap := V1.heap, tape := V1.tape, drawn := V1.drawn + 1, os := V1.os, output := V1.output } : World).frozen? a = V1.frozen? a := fun _ => rfl
      go_still_tail 8, (by kernel_rfl)
      go_upto_region 7 with (fail)
      refine region_name ?_
      rintro V2 hV2
      obtain ⟨f2, hf2⟩ : ∃ f2, f + m.2.2.1 = f2 := ⟨_, rfl⟩
      rw [hf2] at hV2
      have z0w : wr.cell? ⟨fb, 0, none⟩ = some (.int .i64 f) := yf
      have s2 : V2.heap.size = wr.heap.size := by rw [hV2, ← hV1]; simp
      have hJ2 : J pre V2 := by
        rw [hV2]
        exact HJ.out _ _ _ none (HJ.out _ _ _ (some fb) (by rw [← hV1]; exact HJ.out _ _ _ (some W.heap.size) HJS.out (grownBy_set wr ⟨W.heap.size, i0, none⟩ _) (fun r e => by cases e; exact .inr (.inl rfl))) (grownBy_set V1 ⟨fb, 0, none⟩ _) (fun r e => by cases e; exact .inl rfl)) (grownBy_drew _) (fun r e => by cases e)
      have far2 : ∀ p : Addr, p.block ≠ fb → V2.cell? p = V1.cell? p := fun p hp => by rw [hV2]; exact World.cell?_setCell_other _ _ _ _ (by rintro rfl; exact hp rfl)
      have t0 : V2.cell? ⟨fb, 0, none⟩ = some (.int .i64 f2) := by rw [hV2]; exact World.cell?_setCell_same _ _ _ z0
      have tf : V2.frozen? ⟨fb, 0, none⟩ = false := by rw [hV2]; simpa [go_sem] using zf
      have t1 := (far2 ⟨lb, 0, none⟩ (by dsimp only; omega)).trans z1
      have t2 : V2.cell? ⟨W.heap.size + 1, 0, none⟩ = some (.slice (some ⟨W.heap.size, 0, none⟩) n n) := ((far2 _ (by dsimp only; omega)).trans (far _ (by dsimp only; omega))).trans yd
      have t3 : DoneAt V2 W.heap.size n (done ++ [i0]) := fun j hj => by
        rw [far2 _ (by dsimp only; omega), ← hV1]
        by_cases hji : j = i0
        · subst hji
          rw [World.cell?_setCell_same _ _ _ (HYD.out j hj)]
          simp
        · rw [World.cell?_setCell_other _ _ _ _ (by first | (simp; done) | (simp; exact fun e => hji e.symm)), HYD.out j hj]
          simp [hji]
      have t4 : ∀ j, V2.frozen? ⟨W.heap.size, j, none⟩ = false := fun j => by
        rw [hV2, ← hV1]
        have := HYDF.out j
        simpa [go_sem] using this
      have t5 : MemAt V2 (some ⟨b, off, none⟩) n l := HYM.out.keepB (by omega) (fun b2 off2 e _ hb2 => by
        cases e
        rw [hV2, ← hV1]
        show ((wr.setCell _ _).setCell _ _).heap[b]? = _
        rw [Below.heap_setCell _ _ _ _ (by dsimp only; omega), Below.heap_setCell _ _ _ _ (by dsimp only; omega)])
      obtain ⟨fn, tmps, assign, body, hy, hR⟩ := HY.out pre (i0, f2) V2 hJ2 (by omega) hpl.out 0
      rw [hf2] at HG' HT'
      clear hV2 far far2 z0 z1 z2 zf z0w hJ2 x0 x1 x2 x3 hcd hcf hV1
      have T3 := Lib.hid t3
      have T4 := Lib.hid t4
      have T5 := Lib.hid t5
      clear t3 t4 t5
      rw [hf2]
      dsimp only at hy
      refine (wpIn_wide (n := 1)).1 ?_
      gi_wp2
      refine hR.mono ?_
      rintro e W3 ⟨rfl, hJ3, hk3⟩
      obtain ⟨ks, kb⟩ := HKP.out _ _ hk3
      have sb : b < V2.heap.size := by omega
      have kc : ∀ p : Addr, p.block < V2.heap.size → (p.block = fb ∨ p.block = lb ∨ p.block = W.heap.size ∨ p.block = W.heap.size + 1 ∨ (0 < n ∧ ∃ off', some (⟨b, off, none⟩ : Addr) = some ⟨p.block, off', none⟩)) → W3.cell? p = V2.cell? p := fun p h1 h2 => World.cell?_of_block (w := V2) (kb _ h1 h2)
      have kf : ∀ p : Addr, p.block < V2.heap.size → (p.block = fb ∨ p.block = lb ∨ p.block = W.heap.size ∨ p.block = W.heap.size + 1 ∨ (0 < n ∧ ∃ off', some (⟨b, off, none⟩ : Addr) = some ⟨p.block, off', none⟩)) → W3.frozen? p = V2.frozen? p := fun p h1 h2 => World.frozen?_of_block (w := V2) (kb _ h1 h2)
      have q0 := (kc ⟨fb, 0, none⟩ (by dsimp only; omega) (.inl rfl)).trans t0
      have qf := (kf ⟨fb, 0, none⟩ (by dsimp only; omega) (.inl rfl)).trans tf
      have q1 := (kc ⟨lb, 0, none⟩ (by dsimp only; omega) (.inr (.inl rfl))).trans t1
      have q2 := (kc ⟨W.heap.size + 1, 0, none⟩ (by dsimp only; omega) (.inr (.inr (.inr (.inl rfl))))).trans t2
      have q3 : DoneAt W3 W.heap.size n (done ++ [i0]) := fun j hj => (kc ⟨W.heap.size, j, none⟩ (by dsimp only; omega) (.inr (.inr (.inl rfl)))).trans (T3.out j hj)
      have q4 : ∀ j, W3.frozen? ⟨W.heap.size, j, none⟩ = false := fun j => (kf ⟨W.heap.size, j, none⟩ (by dsimp only; omega) (.inr (.inr (.inl rfl)))).trans (T4.out j)
      have q5 := T5.out.keepB ks (fun b2 off2 e h0 hb2 => kb _ hb2 (by cases e; exact .inr (.inr (.inr (.inr ⟨h0, off, rfl⟩)))))
      have KN := Lib.hid (taken_next c lb (W.heap.size + 1) fb W.heap.size f2 (done ++ [i0]) q5 q1 q2 q0 q3)
      have HREL : Hid (∀ w4, Below W3.heap.size W3 w4 → IterRel W (some ⟨b, off, none⟩) n c lb fb l R J (.int .i64 (nextI f2 l (done ++ [i0]))) w4 ∧ leftB W.heap.size n w4 < leftB W.heap.size n wr) := Lib.hid (fun w4 hb4 => by
        have sW : W.heap.size + 1 < W3.heap.size := by omega
        have d4 : DoneAt w4 W.heap.size n (done ++ [i0]) := fun j hj => (hb4.cell (p := ⟨W.heap.size, j, none⟩) (by dsimp only; omega)).trans (q3 j hj)
        exact ⟨⟨k', f2, pre ++ [(i0, f2)], done ++ [i0], by simp [HPRE.out], HJ.out _ _ _ none hJ3 ⟨hb4.os, hb4.tape, hb4.output, hb4.size, fun i hi _ => hb4.block i hi⟩ (fun r e => by cases e), rfl, (hb4.cell (p := ⟨fb, 0, none⟩) (by dsimp only; omega)).trans q0, (hb4.frozen (p := ⟨fb, 0, none⟩) (by dsimp only; omega)).trans qf,
          (hb4.cell (p := ⟨lb, 0, none⟩) (by dsimp only; omega)).trans q1, (hb4.cell (p := ⟨W.heap.size + 1, 0, none⟩) (by dsimp only; omega)).trans q2, d4, fun j => (hb4.frozen (p := ⟨W.heap.size, j, none⟩) (by dsimp only; omega)).trans (q4 j),
          q5.keep hb4, HG'.out, HT'.out, Nat.lt_of_lt_of_le sW hb4.size⟩, leftB_less HYD.out d4 hi0 hn2.out⟩)
      clear kb kc kf hJ3 hk3 qf q3 q4 q5 q0 q1 q2 t0 tf t1 t2 hR hy
      gi_wp2
      go_wp2_with fail
      refine KN.out.mono ?_
      rintro e w4 ⟨rfl, h4⟩
      go_wp2_with fail
      go_roundw
      case rel => exact (HREL.out _ h4).1
      case measure => exact (HREL.out _ h4).2
end Go.Proofs.Ythmjbfocpdiikaa
