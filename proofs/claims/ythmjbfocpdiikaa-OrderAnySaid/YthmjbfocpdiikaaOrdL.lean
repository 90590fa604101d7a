/-
  A range over order.taken whose body leans on the places told.
-/
import Derived.Test.YthmjbfocpdiikaaMemE
namespace Go.Proofs.Ythmjbfocpdiikaa
open Go.RowKit
set_option linter.unusedVariables false
set_option linter.unusedSimpArgs false

/-- What an iterator gives whose values are right: for every J that its own steps leave, and that each round leads on. -/
def IterGivesP {α : Type} (P : Program) (gf : Nat) (lb : Array Value) (encs : α → Array Value) (Own : Nat → Prop) (Kp : World → World → Prop) (S : List α → Prop) (Ok : α → Prop) (l sz N : Nat) (W : World) : Prop :=
  ∀ J : List α → World → Prop, (∀ s A B row, J s A → A.grownBy B row → (∀ r, row = some r → Own r) → J s B) →
    (∀ pre x W1, Ok x → J pre W1 → sz ≤ W1.heap.size → pre.length < N → ∀ m, YieldAt Fence.wide m P l (encs x) W1 fun e W' => e = .returned (.bool true) ∧ J (pre ++ [x]) W' ∧ Kp W1 W') → J [] W →
    Calls P gf (#[.func (.yield l) #[] #[]] ++ lb) W fun e W' => (∃ v, e = .returned v) ∧ ∃ xs, S xs ∧ J xs W'

theorem range_plainP {P : Program} {α : Type} {g : Operand} {ps : Array Tmp} {assign body : Code} {Q : Exit → Act → World → Prop} {a : Act} {w : World} {n : Nat} {gf : Nat} {lb : Array Value}
    (hg : a.eval g = .func (.func gf) #[] lb) (eg : ∀ args w, (callFunc gf args).run P w = .ok (.enter gf args) w) {encs : α → Array Value} (hps : ∀ x, (encs x).size = ps.size)
    (I : List α → World → Prop) (Kp : World → World → Prop) (S : List α → Prop) (Ok : α → Prop) (Own : Nat → Prop) (sz N : Nat)
    (hI : ∀ s A B row, I s A → A.grownBy B row → (∀ r, row = some r → Own r) → I s B) (hO : ¬ Own w.heap.size) (hO1 : ¬ Own (w.heap.size + 1))
    (hIput : ∀ s A o, I s A → w.heap.size + 1 < A.heap.size → I s (A.putObj (w.heap.size + 1) o)) (hKput : ∀ A o, w.heap.size + 1 < A.heap.size → Kp A (A.putObj (w.heap.size + 1) o)) (hKt : ∀ A B C, Kp A B → Kp B C → Kp A C)
    (h0 : ∀ o, I [] ((w.alloc (.deferred (some []))).alloc o))
    (hseq : ∀ o, IterGivesP P gf lb encs Own Kp S Ok (w.heap.size + 1) sz N ((w.alloc (.deferred (some []))).alloc o)) (a₁ : α → Act)
    (hassign : ∀ (l m : Nat) (x : α) (W : World) (K : Act → World → Prop), K (a₁ x) W →
      assign.wpIn (Fence.wide.inRound l) m P (Exit.then K (fun _ _ _ => False)) { tmps := (ps.zip (encs x)).foldl (fun t (p, v) => t.setIfInBounds p v) a.tmps, defers := [] } W)
    (hbody : ∀ (l m : Nat) (pre : List α) (x : α) (W : World), Ok x → I pre W → w.heap.size + 1 < W.heap.size → sz ≤ W.heap.size → pre.length < N → body.wpIn (Fence.wide.inRound l) m P (goesOn w.heap.size Kp I (pre ++ [x]) W) (a₁ x) W)
    (hdone : ∀ (xs : List α) (W : World), S xs → I xs W → W.heap[w.heap.size]? = some (.deferred (some [])) → Q .normal { a with defers := { target := .collected w.heap.size, args := #[] } :: a.defers } W) :
    (Code.rangeFunc g ps assign body).wpIn Fence.wide n P Q a w := by
  refine wpIn_rangeFunc ?_
  intro fn hfn
  have hro : Fence.wide.round = none := rfl
  rw [hro]
  obtain ⟨rec, hrec⟩ : ∃ rec : LoopState → Loop, rec = fun st => { state := st, pending := none, fn, tmps := a.tmps, params := ps, assign, body, defers := w.heap.size } := ⟨_, rfl⟩
  have hres : ∀ st, (rec st).state = st := fun st => by rw [hrec]
  obtain ⟨W1, hW1⟩ : ∃ W1, (w.alloc (.deferred (some []))).alloc (.loop (rec .ready)) = W1 := ⟨_, rfl⟩
  have hL1 : W1.heap[w.heap.size + 1]? = some (.loop (rec .ready)) := by
    rw [← hW1]; have := World.alloc_heap_new (w.alloc (.deferred (some []))) (.loop (rec .ready)); rwa [World.size_alloc] at this
  have hK1 : W1.heap[w.heap.size]? = some (.deferred (some [])) := by
    rw [← hW1]; exact (Below.heap_alloc _ _ _ (by simp)).trans (World.alloc_heap_new w _)
  have hI1 : I [] W1 := by rw [← hW1]; exact h0 _
  have hcall := hseq (.loop (rec .ready))
  rw [hW1] at hcall
  refine ⟨w.heap.size + 1, [{ target := .collected w.heap.size, args := #[] }], W1, { target := .fn (.func gf) lb, args := #[.func (.yield (w.heap.size + 1)) #[] #[]] }, W1, gf,
    #[.func (.yield (w.heap.size + 1)) #[] #[]] ++ lb, W1, ?_, ?_, ?_, ?_, fun h => by simp [Fence.wide] at h, callsIn_wide.2 ?_⟩
  · rw [← hW1, hrec]; exact run_enterLoop_outer _ _ _ _ _
  · simp only [resolve, hg]
    simp [go_sem]
  · intro f' hf'; trivial
  · simp [invoke, go_sem, eg]
  have keepL : ∀ {A B : World} {row : Option Nat} {k : Nat} {o : Obj}, A.grownBy B row → (∀ r, row = some r → Own r) → ¬ Own k → A.heap[k]? = some o → B.heap[k]? = some o := fun {A B row k o} hg hr hk ho =>
    (hg.block k (Array.getElem?_eq_some_iff.1 ho).1 (fun e => hk (hr k e.symm))).trans ho
  refine (hcall (fun pre W => I pre W ∧ W.heap[w.heap.size + 1]? = some (.loop (rec .ready)) ∧ W.heap[w.heap.size]? = some (.deferred (some [])))
    (fun s A B row hs hg' hr => ⟨hI s A B row hs.1 hg' hr, keepL hg' hr hO1 hs.2.1, keepL hg' hr hO hs.2.2⟩) ?_ ⟨hI1, hL1, hK1⟩).mono ?_
  · rintro pre x W hok ⟨hi, hl, hk⟩ hsz hN m
    have hlt : w.heap.size + 1 < W.heap.size := (Array.getElem?_eq_some_iff.1 hl).1
    have hy := run_yield (P := P) (args := encs x) hl (by rw [hrec]; exact hps x)
    rw [hrec] at hy
    refine ⟨fn, _, assign, body, hy, roundIn_of_wpIn trivial (hassign _ m x W _ ⟨_, run_beginRound hl (hres _), ?_⟩)⟩
    obtain ⟨W2, hW2⟩ : ∃ W2, W.putObj (w.heap.size + 1) (.loop { rec .ready with state := .busy }) = W2 := ⟨_, rfl⟩
    rw [hW2]
    have hl2 : W2.heap[w.heap.size + 1]? = some (.loop { rec .ready with state := .busy }) := by rw [← hW2]; exact World.putObj_heap_same hlt
    have hk2 : W2.heap[w.heap.size]? = some (.deferred (some [])) := by rw [← hW2]; exact (World.putObj_heap_other (by omega)).trans hk
    have hi2 : I pre W2 := by rw [← hW2]; exact hIput _ _ _ hi hlt
    have hw2 : Kp W W2 := by rw [← hW2]; exact hKput _ _ hlt
    refine wpIn_mono (hbody _ m pre x W2 hok hi2 (Array.getElem?_eq_some_iff.1 hl2).1 (by rw [← hW2]; simpa using hsz) hN) ?_
    rintro e a3 W3 hp
    cases e with
    | normal =>
      obtain ⟨d0, d1, hkp3, hi3⟩ := hp
      have hl3 := d1.trans hl2
      have hlt3 := (Array.getElem?_eq_some_iff.1 hl3).1
      have hr := run_endRound (P := P) none hl3
      refine ⟨_, _, hr, rfl, ⟨hIput _ _ _ hi3 hlt3, ?_, (World.putObj_heap_other (by omega)).trans (d0.trans hk2)⟩, hKt _ _ _ (hKt _ _ _ hw2 hkp3) (hKput _ _ hlt3)⟩
      rw [World.putObj_heap_same hlt3]
      simp [hrec]
    | ret => exact hp.elim
    | exit id => exact hp.elim
    | goto t => exact hp.elim
    | panic ch => exact hp.elim
    | outgrown => exact hp.elim
  · rintro e W2 ⟨⟨v, rfl⟩, xs, hS, hi, hl, hk⟩
    have hlt := (Array.getElem?_eq_some_iff.1 hl).1
    exact ⟨none, _, by have := run_endLoop (P := P) hl (by rw [hres]; simp); rw [hrec] at this; exact this, hdone xs _ hS (hIput _ _ _ hi hlt) ((World.putObj_heap_other (by omega)).trans hk)⟩

attribute [local go_sem] drewN_alloc drewN_setCell Oper.semAt_some
set_option maxRecDepth 100000 in
set_option maxHeartbeats 8000000 in
theorem taken_iterP {A : Option Addr} {n : Nat} {l : List PO.Mem} (c lb fb L : Nat) (f : Int) {W : World} (h : MemAt W A n l) (hn : n ≤ 1000) (hm : PO.may f l = true)
    (cl : W.cell? ⟨lb, 0, none⟩ = some (.slice A n c)) (cf : W.cell? ⟨fb, 0, none⟩ = some (.int .i64 f)) (ff : W.frozen? ⟨fb, 0, none⟩ = false) (hne : lb ≠ fb) (hA : 0 < n → ∀ b off, A = some ⟨b, off, none⟩ → b ≠ fb)
    (Kp : World → World → Prop) (hKp : ∀ X Y, Kp X Y → KeepsIt W A n lb fb X Y) :
    IterGivesP Try.prog 94 #[.pointer (some ⟨lb, 0, none⟩), .pointer (some ⟨fb, 0, none⟩)] (fun x : Nat × Int => #[.int .i64 (x.1 : Int), .int .i64 x.2]) (fun r => r = fb ∨ r = W.heap.size ∨ r = W.heap.size + 1) Kp
      (fun xs => xs.map (·.1) = PO.takenAll f l) (fun x : Nat × Int => x.1 < n) L (W.heap.size + 2) n W := by
  intro J hJ hY h0
  show Calls Try.prog 94 #[.func (.yield L) #[] #[], .pointer (some ⟨lb, 0, none⟩), .pointer (some ⟨fb, 0, none⟩)] W _
  obtain ⟨R, hR⟩ : ∃ R, PO.takenAll f l = R := ⟨_, rfl⟩
  rw [hR]
  have hinfo : (Try.prog.info? 4).map (fun i => (i.zero, i.size, i.bytes)) = some (some (.bool false), 1, 1) := by kernel_rfl
  have hmk := run_make_row' (P := Try.prog) 95 4 (.bool false) 1 Try.underlying95 hinfo rfl .i64 .i64 n (by omega) (by omega)
  obtain ⟨Z, hZ⟩ : ∃ Z, madeCells #[Value.bool false] n = Z := ⟨_, rfl⟩
  rw [hZ] at hmk
  obtain ⟨V, hV⟩ : ∃ V, (W.alloc (.cells Z 4)).alloc (.cells #[.slice (some ⟨W.heap.size, 0, none⟩) n n] 95) = V := ⟨_, rfl⟩
  have hbV : Below W.heap.size W V := by rw [← hV]; exact (by repeat (first | exact Below.refl _ _ | assumption | refine bel_drew ?_ | refine bel_drewN ?_ _ | refine bel_alloc ?_ _ | refine bel_set ?_ (by first | (dsimp only; omega) | (simp; done) | (simp; omega)) _ | refine bel_trans ?_ (by assumption)))
  have sV : W.heap.size + 1 < V.heap.size := by rw [← hV]; simp
  have sl := World.block_lt_of_cell? _ _ cl
  have sf := World.block_lt_of_cell? _ _ cf
  dsimp only at sl sf
  have vl := (hbV.cell (p := ⟨lb, 0, none⟩) sl).trans cl
  have vf := (hbV.cell (p := ⟨fb, 0, none⟩) sf).trans cf
  have vff := (hbV.frozen (p := ⟨fb, 0, none⟩) sf).trans ff
  have vd : V.cell? ⟨W.heap.size + 1, 0, none⟩ = some (.slice (some ⟨W.heap.size, 0, none⟩) n n) := by rw [← hV]; simp [go_sem]
  have vD : DoneAt V W.heap.size n [] := fun j hj => by
    rw [← hV, World.cell?_alloc_lt _ _ _ (by simp)]
    have : (W.alloc (.cells Z 4)).cell? ⟨W.heap.size, j, none⟩ = Z[j]? := by simp [go_sem]
    rw [this, ← hZ]
    simp [madeCells, hj, Nat.mod_one]
  have vDf : ∀ j, V.frozen? ⟨W.heap.size, j, none⟩ = false := fun j => by rw [← hV]; simp [go_sem]
  have vM := h.keep hbV
  have hJV : J [] V := by
    rw [← hV]
    exact hJ _ _ _ none (hJ _ _ _ none h0 (World.grownBy_alloc _ _ _) (fun r e => by cases e)) (World.grownBy_alloc _ _ _) (fun r e => by cases e)
  have hst := PO.good_start hm
  have HA : Hid (l.all PO.ok = true) := Lib.hid (PO.may_iff.1 hm).2.2
  have K0 := Lib.hid (taken_next c lb (W.heap.size + 1) fb W.heap.size f [] vM vl vd vf vD)
  replace hV := Lib.hid hV
  have HY := Lib.hid hY
  have HJ := Lib.hid hJ
  have HKP := Lib.hid hKp
  have HX := Lib.hid h.1
  have HR := Lib.hid hR
  have H0 : Hid (∀ wr, Below V.heap.size V wr → IterRel W A n c lb fb l R J (.int .i64 (nextI f l [])) wr) := Lib.hid (fun wr hb => by
    have hb' : ∀ o, V.cell? o = V.cell? o := fun _ => rfl
    exact ⟨l.length, f, [], [], rfl, hJ _ _ _ none hJV ⟨hb.os, hb.tape, hb.output, hb.size, fun i hi _ => hb.block i hi⟩ (fun r e => by cases e), rfl, (hb.cell (p := ⟨fb, 0, none⟩) (by dsimp only; omega)).trans vf, (hb.frozen (p := ⟨fb, 0, none⟩) (by dsimp only; omega)).trans vff,
      (hb.cell (p := ⟨lb, 0, none⟩) (by dsimp only; omega)).trans vl, (hb.cell (p := ⟨W.heap.size + 1, 0, none⟩) sV).trans vd, fun j hj => (hb.cell (p := ⟨W.heap.size, j, none⟩) (by dsimp only; omega)).trans (vD j hj), fun j => (hb.frozen (p := ⟨W.heap.size, j, none⟩) (by dsimp only; omega)).trans (vDf j),
      vM.keep hb, hst, hR, Nat.lt_of_lt_of_le sV hb.size⟩)
  have HAB : Hid (0 < n → ∃ b off, A = some ⟨b, off, none⟩ ∧ b < W.heap.size ∧ b ≠ fb) := Lib.hid (fun h0 => by
    obtain ⟨b, off, e, hb, _⟩ := h.2.2.2 h0
    exact ⟨b, off, e, hb, hA h0 b off e⟩)
  clear hA
  clear hY hJ hKp vl vf vff vd vD vDf vM hJV hst h hm hR hZ cf ff h0 hinfo
  go_enter Try.func94, Try.ntmps94
  go_wp2_with fail
  rw [hV.out]
  refine K0.out.mono ?_
  rintro e w1 ⟨rfl, h1⟩
  go_wp2_with fail
  go_loopw [6] (fun i wr => IterRel W A n c lb fb l R J i wr) (fun _ wr => leftB W.heap.size n wr)
  case atStart => exact H0.out _ h1
  case round =>
    obtain ⟨k, f, pre, done, hpre, hJs, rfl, yf, yff, yl, yd, yD, yDf, yM, hg, ht, hsz⟩ := hrel
    cases hnx : PO.next f l done with
    | none =>
      have e : nextI f l done = -1 := by unfold nextI; rw [hnx]
      rw [e]
      have HE : Hid (pre.map (·.1) = R) := Lib.hid (by rw [hpre, ← ht, PO.taken_none hnx])
      have HJS := Lib.hid hJs
      clear hpre hJs yf yff yl yd yD yDf yM hg ht hnx e
      go_wp2_with fail
      go_end0
      exact ⟨⟨_, rfl⟩, pre, HE.out, HJS.out⟩
    | some i0 =>
      have e : nextI f l done = (i0 : Int) := by unfold nextI; rw [hnx]
      rw [e]
      obtain ⟨n1, n2, n3, _⟩ := PO.next_some.1 hnx
      have hi0 : i0 < n := by rw [← HX.out]; exact n1
      obtain ⟨b, off, rfl, hb, hbf⟩ := HAB.out (by omega)
      obtain ⟨b', off', e', hb', hcs⟩ := yM.2.2.2 (by omega)
      obtain ⟨rfl, rfl⟩ : b = b' ∧ off = off' := by simpa using e'
      obtain ⟨x0, x1, x2, x3⟩ := hcs i0 hi0
      obtain ⟨m, hmm⟩ : ∃ m, l.getD i0 PO.m0 = m := ⟨_, rfl⟩
      have hok := PO.ok_held (PO.ok_get HA.out n1)
      rw [hmm] at x0 x1 x2 x3 hok
      obtain ⟨k1, k2⟩ := hok
      obtain ⟨k', rfl, hg'⟩ := PO.good_next HA.out hg hnx
      have ht' := (PO.taken_some hnx).symm.trans ht
      rw [hmm] at hg' ht'
      have hf0 : 0 ≤ f := hg.2.2.2.1
      have hpl : Hid (pre.length < n) := Lib.hid (by have e1 := congrArg List.length hpre; rw [List.length_map] at e1; have := hg.2.2.1; have := HX.out; omega)
      have hf1 : f ≤ 2000000000 := by have := hg.2.2.2.2; have := hg.2.2.1; have := HX.out; omega
      have wf : IntKind.i64.wrap (f + m.2.2.1) = f + m.2.2.1 := IntWalk.i64_in _ (by omega)
      have j0 : (0 : Int) ≤ (i0 : Int) := by omega
      have j1 : (i0 : Int) < (n : Int) := by omega
      have yd0 := yD i0 hi0
      have ydf := yDf i0
      have HNX := Lib.hid hnx
      have HG' := Lib.hid hg'
      have HT' := Lib.hid ht'
      have HPRE := Lib.hid hpre
      have HJS := Lib.hid hJs
      have HYD := Lib.hid yD
      have HYDF := Lib.hid yDf
      have HYM := Lib.hid yM
      have HCS := Lib.hid hcs
      have hn1 := Lib.hid n1
      have hn2 := Lib.hid n2
      clear e n1 n2 n3 e' hcs hmm hg hg' ht ht' hnx hpre hJs yD yDf yM
      go_wp2_with fail
      obtain ⟨V1, hV1⟩ : ∃ V1, wr.setCell ⟨W.heap.size, i0, none⟩ (.bool true) = V1 := ⟨_, rfl⟩
      have far : ∀ p : Addr, p.block ≠ W.heap.size → V1.cell? p = wr.cell? p := fun p hp => by rw [← hV1]; exact World.cell?_setCell_other _ _ _ _ (by rintro rfl; exact hp rfl)
      have z0 := (far ⟨fb, 0, none⟩ (by dsimp only; omega)).trans yf
      have z1 := (far ⟨lb, 0, none⟩ (by dsimp only; omega)).trans yl
      have z2 := (far ⟨b, off + i0 * 4 + 2, none⟩ (by dsimp only; omega)).trans x2
      have zf : V1.frozen? ⟨fb, 0, none⟩ = false := by rw [← hV1]; simpa [go_sem] using yff
      rw [hV1]
      have hcd : ∀ a, ({ heap := V1.heap, tape := V1.tape, drawn := V1.drawn + 1, os := V1.os, output := V1.output } : World).cell? a = V1.cell? a := fun _ => rfl
      have hcf : ∀ a, ({ heap := V1.heap, tape := V1.tape, drawn := V1.drawn + 1, os := V1.os, output := V1.output } : World).frozen? a = V1.frozen? a := fun _ => rfl
      go_still_tail 8, (by kernel_rfl)
      go_upto_region 7 with (fail)
      refine region_name ?_
      rintro V2 hV2
      obtain ⟨f2, hf2⟩ : ∃ f2, f + m.2.2.1 = f2 := ⟨_, rfl⟩
      rw [hf2] at hV2
      have z0w : wr.cell? ⟨fb, 0, none⟩ = some (.int .i64 f) := yf
      have s2 : V2.heap.size = wr.heap.size := by rw [hV2, ← hV1]; simp
      have hJ2 : J pre V2 := by
        rw [hV2]
        exact HJ.out _ _ _ none (HJ.out _ _ _ (some fb) (by rw [← hV1]; exact HJ.out _ _ _ (some W.heap.size) HJS.out (grownBy_set wr ⟨W.heap.size, i0, none⟩ _) (fun r e => by cases e; exact .inr (.inl rfl))) (grownBy_set V1 ⟨fb, 0, none⟩ _) (fun r e => by cases e; exact .inl rfl)) (grownBy_drew _) (fun r e => by cases e)
      have far2 : ∀ p : Addr, p.block ≠ fb → V2.cell? p = V1.cell? p := fun p hp => by rw [hV2]; exact World.cell?_setCell_other _ _ _ _ (by rintro rfl; exact hp rfl)
      have t0 : V2.cell? ⟨fb, 0, none⟩ = some (.int .i64 f2) := by rw [hV2]; exact World.cell?_setCell_same _ _ _ z0
      have tf : V2.frozen? ⟨fb, 0, none⟩ = false := by rw [hV2]; simpa [go_sem] using zf
      have t1 := (far2 ⟨lb, 0, none⟩ (by dsimp only; omega)).trans z1
      have t2 : V2.cell? ⟨W.heap.size + 1, 0, none⟩ = some (.slice (some ⟨W.heap.size, 0, none⟩) n n) := ((far2 _ (by dsimp only; omega)).trans (far _ (by dsimp only; omega))).trans yd
      have t3 : DoneAt V2 W.heap.size n (done ++ [i0]) := fun j hj => by
        rw [far2 _ (by dsimp only; omega), ← hV1]
        by_cases hji : j = i0
        · subst hji
          rw [World.cell?_setCell_same _ _ _ (HYD.out j hj)]
          simp
        · rw [World.cell?_setCell_other _ _ _ _ (by first | (simp; done) | (simp; exact fun e => hji e.symm)), HYD.out j hj]
          simp [hji]
      have t4 : ∀ j, V2.frozen? ⟨W.heap.size, j, none⟩ = false := fun j => by
        rw [hV2, ← hV1]
        have := HYDF.out j
        simpa [go_sem] using this
      have t5 : MemAt V2 (some ⟨b, off, none⟩) n l := HYM.out.keepB (by omega) (fun b2 off2 e _ hb2 => by
        cases e
        rw [hV2, ← hV1]
        show ((wr.setCell _ _).setCell _ _).heap[b]? = _
        rw [Below.heap_setCell _ _ _ _ (by dsimp only; omega), Below.heap_setCell _ _ _ _ (by dsimp only; omega)])
      obtain ⟨fn, tmps, assign, body, hy, hR⟩ := HY.out pre (i0, f2) V2 hi0 hJ2 (by omega) hpl.out 0
      rw [hf2] at HG' HT'
      clear hV2 far far2 z0 z1 z2 zf z0w hJ2 x0 x1 x2 x3 hcd hcf hV1
      have T3 := Lib.hid t3
      have T4 := Lib.hid t4
      have T5 := Lib.hid t5
      clear t3 t4 t5
      rw [hf2]
      dsimp only at hy
      refine (wpIn_wide (n := 1)).1 ?_
      gi_wp2
      refine hR.mono ?_
      rintro e W3 ⟨rfl, hJ3, hk3⟩
      obtain ⟨ks, kb⟩ := HKP.out _ _ hk3
      have sb : b < V2.heap.size := by omega
      have kc : ∀ p : Addr, p.block < V2.heap.size → (p.block = fb ∨ p.block = lb ∨ p.block = W.heap.size ∨ p.block = W.heap.size + 1 ∨ (0 < n ∧ ∃ off', some (⟨b, off, none⟩ : Addr) = some ⟨p.block, off', none⟩)) → W3.cell? p = V2.cell? p := fun p h1 h2 => World.cell?_of_block (w := V2) (kb _ h1 h2)
      have kf : ∀ p : Addr, p.block < V2.heap.size → (p.block = fb ∨ p.block = lb ∨ p.block = W.heap.size ∨ p.block = W.heap.size + 1 ∨ (0 < n ∧ ∃ off', some (⟨b, off, none⟩ : Addr) = some ⟨p.block, off', none⟩)) → W3.frozen? p = V2.frozen? p := fun p h1 h2 => World.frozen?_of_block (w := V2) (kb _ h1 h2)
      have q0 := (kc ⟨fb, 0, none⟩ (by dsimp only; omega) (.inl rfl)).trans t0
      have qf := (kf ⟨fb, 0, none⟩ (by dsimp only; omega) (.inl rfl)).trans tf
      have q1 := (kc ⟨lb, 0, none⟩ (by dsimp only; omega) (.inr (.inl rfl))).trans t1
      have q2 := (kc ⟨W.heap.size + 1, 0, none⟩ (by dsimp only; omega) (.inr (.inr (.inr (.inl rfl))))).trans t2
      have q3 : DoneAt W3 W.heap.size n (done ++ [i0]) := fun j hj => (kc ⟨W.heap.size, j, none⟩ (by dsimp only; omega) (.inr (.inr (.inl rfl)))).trans (T3.out j hj)
      have q4 : ∀ j, W3.frozen? ⟨W.heap.size, j, none⟩ = false := fun j => (kf ⟨W.heap.size, j, none⟩ (by dsimp only; omega) (.inr (.inr (.inl rfl)))).trans (T4.out j)
      have q5 := T5.out.keepB ks (fun b2 off2 e h0 hb2 => kb _ hb2 (by cases e; exact .inr (.inr (.inr (.inr ⟨h0, off, rfl⟩)))))
      have KN := Lib.hid (taken_next c lb (W.heap.size + 1) fb W.heap.size f2 (done ++ [i0]) q5 q1 q2 q0 q3)
      have HREL : Hid (∀ w4, Below W3.heap.size W3 w4 → IterRel W (some ⟨b, off, none⟩) n c lb fb l R J (.int .i64 (nextI f2 l (done ++ [i0]))) w4 ∧ leftB W.heap.size n w4 < leftB W.heap.size n wr) := Lib.hid (fun w4 hb4 => by
        have sW : W.heap.size + 1 < W3.heap.size := by omega
        have d4 : DoneAt w4 W.heap.size n (done ++ [i0]) := fun j hj => (hb4.cell (p := ⟨W.heap.size, j, none⟩) (by dsimp only; omega)).trans (q3 j hj)
        exact ⟨⟨k', f2, pre ++ [(i0, f2)], done ++ [i0], by simp [HPRE.out], HJ.out _ _ _ none hJ3 ⟨hb4.os, hb4.tape, hb4.output, hb4.size, fun i hi _ => hb4.block i hi⟩ (fun r e => by cases e), rfl, (hb4.cell (p := ⟨fb, 0, none⟩) (by dsimp only; omega)).trans q0, (hb4.frozen (p := ⟨fb, 0, none⟩) (by dsimp only; omega)).trans qf,
          (hb4.cell (p := ⟨lb, 0, none⟩) (by dsimp only; omega)).trans q1, (hb4.cell (p := ⟨W.heap.size + 1, 0, none⟩) (by dsimp only; omega)).trans q2, d4, fun j => (hb4.frozen (p := ⟨W.heap.size, j, none⟩) (by dsimp only; omega)).trans (q4 j),
          q5.keep hb4, HG'.out, HT'.out, Nat.lt_of_lt_of_le sW hb4.size⟩, leftB_less HYD.out d4 hi0 hn2.out⟩)
      clear kb kc kf hJ3 hk3 qf q3 q4 q5 q0 q1 q2 t0 tf t1 t2 hR hy
      gi_wp2
      go_wp2_with fail
      refine KN.out.mono ?_
      rintro e w4 ⟨rfl, h4⟩
      go_wp2_with fail
      go_roundw
      case rel => exact (HREL.out _ h4).1
      case measure => exact (HREL.out _ h4).2
end Go.Proofs.Ythmjbfocpdiikaa
