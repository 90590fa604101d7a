/- Part 7 of the proof of GrantParts: lemmas, each with its conditions ahead of it. -/
import Derived.Test.YthmjbfocpdiikaaPartGrantParts6
import Derived.Test.YthmjbfocpdiikaaPartGrantParts1
import Derived.Test.YthmjbfocpdiikaaPartGrantParts4
/-
  Layer 35 (grant): Step.
-/
namespace Go.Proofs.Ythmjbfocpdiikaa
open Go.RowKit
set_option linter.unusedVariables false
set_option linter.unusedSimpArgs false
attribute [local go_sem] drewN_alloc drewN_setCell Oper.semAt_some

variable {w w' : World}
/-- What Step hands back. -/
def GivesStep (w : World) (wt : Int) (S0 : GN.St) (e : Ending) (w' : World) : Prop :=
  (∃ v, e = .returned (.tuple #[v, .bool false]) ∧ GN.nx S0 wt = -1 ∧ ResV w [] S0 v w' ∧ Below w.heap.size w w') ∨
  (∃ v k, e = .returned (.tuple #[v, .bool true]) ∧ GN.nx S0 wt = (k : Nat) ∧ GN.Goes S0 wt k ∧ ResV w [GN.gtold (GN.tk S0 k)] (GN.step S0 k) v w' ∧ Below w.heap.size w w')
/-- The two result variables are written. -/
theorem set5_rows {W : World} {s : Nat} {x0 x1 x2 x3 y z0 z1 z2 z3 z : Value} (h : RowA W s 56 [z0, z1, z2, z3]) (h' : RowA W (s + 1) 4 [z]) :
    RowA (((((W.setCell ⟨s, 0, none⟩ x0).setCell ⟨s, 1, none⟩ x1).setCell ⟨s, 2, none⟩ x2).setCell ⟨s, 3, none⟩ x3).setCell ⟨s + 1, 0, none⟩ y) s 56 [x0, x1, x2, x3] ∧
    RowA (((((W.setCell ⟨s, 0, none⟩ x0).setCell ⟨s, 1, none⟩ x1).setCell ⟨s, 2, none⟩ x2).setCell ⟨s, 3, none⟩ x3).setCell ⟨s + 1, 0, none⟩ y) (s + 1) 4 [y] ∧
    Chg (fun q => q = s ∨ q = s + 1) W (((((W.setCell ⟨s, 0, none⟩ x0).setCell ⟨s, 1, none⟩ x1).setCell ⟨s, 2, none⟩ x2).setCell ⟨s, 3, none⟩ x3).setCell ⟨s + 1, 0, none⟩ y) := by
  obtain ⟨V, hV⟩ : ∃ V, (((W.setCell ⟨s, 0, none⟩ x0).setCell ⟨s, 1, none⟩ x1).setCell ⟨s, 2, none⟩ x2).setCell ⟨s, 3, none⟩ x3 = V := ⟨_, rfl⟩
  have c4 : Chg (fun q => q = s) W V := by rw [← hV]; exact ((((Chg.refl (fun q => q = s) W).set (p := ⟨s, 0, none⟩) rfl _).set (p := ⟨s, 1, none⟩) rfl _).set (p := ⟨s, 2, none⟩) rfl _).set (p := ⟨s, 3, none⟩) rfl _
  have r4 : RowA V s 56 [x0, x1, x2, x3] := by rw [← hV]; exact (((h.set_ 0 _).set_ 1 _).set_ 2 _).set_ 3 _
  have r5 := h'.chg c4 (by omega)
  rw [hV]
  have c5 : Chg (fun q => q = s + 1) V (V.setCell ⟨s + 1, 0, none⟩ y) := (Chg.refl (fun q => q = s + 1) V).set (p := ⟨s + 1, 0, none⟩) rfl _
  exact ⟨r4.chg c5 (by omega), r5.set_ 0 y, (c4.mono (fun _ _ e => .inl e)).trans (c5.mono (fun _ _ e => .inr e))⟩
theorem step_end {W W9 : World} {s k9 rb b2 b5 n lt2 : Nat} {gr : List SK.Tick} {S : GN.St} {A9 : Option Addr} {n9 c9 : Nat} {b : Bool} {C : Prop} (w : World) (wt : Int) (hk : s + 1 < k9) (hs : w.heap.size = s)
    (q1 : RowA W9 s 56 [.slice A9 n9 c9, .slice (some ⟨b2, 0, none⟩) S.left.length n, .slice (some ⟨b5, 0, none⟩) S.ms.length S.ms.length, .int .i64 S.free]) (q2 : RowA W9 (s + 1) 4 [.bool b]) (q3 : Chg (fun q => q = s ∨ q = s + 1) W W9)
    (hat : ResAt s W rb gr S (.slice A9 n9 c9) b2 b5 n) (hn : ∀ k, (Value.slice A9 n9 c9).ownBlock = some k → (Value.slice none 0 0).ownBlock = some k ∨ k9 ≤ k) (ho : ∀ k, resOwn rb b2 b5 (.slice A9 n9 c9) k → k ≠ k9)
    (hd : W.heap[k9]? = some (.deferred (some []))) (cw : Chg (fun k => s ≤ k) w W) (_ : b2 < lt2) (_ : b5 < lt2) (hr : s + 1 < rb) (h2 : s + 1 < b2) (h5 : s + 1 < b5)
    (h : W9.heap[k9]? = some (.deferred (some [])) → (W9.putObj k9 (.deferred none)).cell? ⟨s, 0, none⟩ = some (.slice A9 n9 c9) → (W9.putObj k9 (.deferred none)).cell? ⟨s, 1, none⟩ = some (.slice (some ⟨b2, 0, none⟩) S.left.length n) →
      (W9.putObj k9 (.deferred none)).cell? ⟨s, 2, none⟩ = some (.slice (some ⟨b5, 0, none⟩) S.ms.length S.ms.length) → (W9.putObj k9 (.deferred none)).cell? ⟨s, 3, none⟩ = some (.int .i64 S.free) → (W9.putObj k9 (.deferred none)).cell? ⟨s + 1, 0, none⟩ = some (.bool b) →
      ResV w gr S (.agg #[.slice A9 n9 c9, .slice (some ⟨b2, 0, none⟩) S.left.length n, .slice (some ⟨b5, 0, none⟩) S.ms.length S.ms.length, .int .i64 S.free]) (W9.putObj k9 (.deferred none)) → Below w.heap.size w (W9.putObj k9 (.deferred none)) → True → C) : C := by
  have n0 : ∀ k, resOwn rb b2 b5 (.slice A9 n9 c9) k → ¬ ((k = s ∨ k = s + 1) ∨ k = k9) := fun k e => by
    rintro (e2 | e2)
    · rcases e with e | e | e | e
      · omega
      · omega
      · omega
      · rcases hn k e with h1 | h1
        · cases h1
        · omega
    · exact ho k e e2
  have hd9 : W9.heap[k9]? = some (.deferred (some [])) := (q3.block k9 (Array.getElem?_eq_some_iff.1 hd).1 (fun e => by omega)).trans hd
  have cP : Chg (fun q => q = k9) W9 (W9.putObj k9 (.deferred none)) := chg_putG rfl
  have cA : Chg (fun q => (q = s ∨ q = s + 1) ∨ q = k9) W (W9.putObj k9 (.deferred none)) := (q3.mono (fun _ _ e => .inl e)).trans (cP.mono (fun _ _ e => .inr e))
  have hat2 := hat.chg cA n0
  have r1 := q1.chg cP (by omega)
  have r2 := q2.chg cP (by omega)
  refine h hd9 ((r1.cell 0).trans rfl) ((r1.cell 1).trans rfl) ((r1.cell 2).trans rfl) ((r1.cell 3).trans rfl) ((r2.cell 0).trans rfl) ⟨_, _, _, _, rfl, ?_, ?_, hat2.mem, ?_, hat2.bt, hat2.bg, hat2.bms, hat2.bf, hat2.len, hat2.lm⟩ ?_ trivial
  · rw [hs]; exact hat2.own
  · rw [hs]; exact hat2.left
  · rw [hs]; exact hat2.b3
  · exact (cw.trans (cA.mono (fun k _ e => by omega))).below (Nat.le_refl _) (fun k hk => by omega)
set_option maxRecDepth 100000 in
set_option maxHeartbeats 16000000 in
theorem grant_Step {TA MA : Option Addr} {tn mn : Nat} {ts : List SK.Tick} {ms : List PO.Mem} (tc mc : Nat) (free wt : Int) (h : TickAt w TA tn ts) (hm : MemAt w MA mn ms) (htn : tn ≤ 1000) (hmn : mn ≤ 1000) (bf : Bd free) (bw : Bd wt) :
    Calls Try.prog 41 #[.slice TA tn tc, .int .i64 free, .int .i64 wt, .slice MA mn mc] w (GivesStep w wt ⟨ts, ms, free⟩) := by
  have KC : Hid (∀ W, Below w.heap.size w W → Calls Try.prog 66 #[.slice TA tn tc, .slice MA mn mc, .int .i64 free] W (GivesCopied tn mn ts ms free W)) := Lib.hid (fun W hW => grant_copied tc mc free (h.keep hW) (hm.keep hW) htn hmn)
  have HB := Lib.hid h.2.2.1
  have HMB := Lib.hid hm.2.2.1
  have HL := Lib.hid h.1
  have HML := Lib.hid hm.1
  have BF := Lib.hid bf
  clear h hm
  refine callsIn_wide (n := 3) |>.1 ?_
  refine callsIn_of_wp_marks Try.func41 rfl trivial ?_ rfl
  simp only [Try.ntmps41, List.size_toArray, List.length_cons, List.length_nil, Nat.reduceAdd, Nat.reduceSub, Array.replicate_succ, Array.replicate_zero, List.push_toArray, List.append_toArray, List.nil_append, List.cons_append]
  refine wpIn_wide.2 ?_
  go_wp2_with fail
  refine (KC.out _ (by repeat (first | exact Below.refl _ _ | assumption | refine bel_drew ?_ | refine bel_drewN ?_ _ | refine bel_alloc ?_ _ | refine bel_trans ?_ (by assumption)))).mono ?_
  rintro e w1 ⟨b2, b5, rfl, l2, l5, n25, r2, r5, b1⟩
  obtain ⟨s, hs⟩ : ∃ s, w.heap.size = s := ⟨_, rfl⟩
  have r8 : RowA w1 s 56 [.slice none 0 0, .slice none 0 0, .slice none 0 0, .int .i64 0] := by rw [← hs]; exact ((RowA.new w 56 [.slice none 0 0, .slice none 0 0, .slice none 0 0, .int .i64 0]).keep (bel_alloc (Below.refl _ _) _)).keep b1
  have r9 : RowA w1 (s + 1) 4 [.bool false] := by
    have := (RowA.new (w.alloc (.cells #[.slice none 0 0, .slice none 0 0, .slice none 0 0, .int .i64 0] 56)) 4 [.bool false]).keep b1
    rw [World.size_alloc, hs] at this
    exact this
  have s1 := b1.size
  simp only [World.size_alloc, hs] at l2 l5 s1
  have B1 : Below w.heap.size w w1 := (bel_alloc (bel_alloc (Below.refl _ w) _) _).trans (b1.mono (by simp; omega))
  have R2 := Lib.hid r2
  have R5 := Lib.hid r5
  have R8 := Lib.hid r8
  have R9 := Lib.hid r9
  have HB1 := Lib.hid B1
  have HS := Lib.hid hs
  clear b1 r2 r5 r8 r9 B1
  rw [hs]
  go_upto_region 2 with (fail)
  refine region_nameL ?_
  rintro X hX
  have rX : RowA X w1.heap.size 56 [.slice none 0 0, .slice (some ⟨b2, 0, none⟩) tn tn, .slice (some ⟨b5, 0, none⟩) mn mn, .int .i64 free] := by rw [hX]; exact RowA.new w1 56 _
  have bX : Below w1.heap.size w1 X := by rw [hX]; exact (by repeat (first | exact Below.refl _ _ | assumption | refine bel_drew ?_ | refine bel_drewN ?_ _ | refine bel_alloc ?_ _ | refine bel_set ?_ (by first | (dsimp only; omega) | (simp; done) | (simp; omega)) _ | refine bel_trans ?_ (by assumption)))
  have sX : X.heap.size = w1.heap.size + 1 := by rw [hX]; simp
  have RX := Lib.hid rX
  have BX := Lib.hid bX
  clear hX rX bX
  go_wp2_with fail
  refine (grants_func _ _ _).mono ?_
  rintro e w2 ⟨rfl, hw2⟩
  go_wp2_with fail
  have b2X : Below X.heap.size X w2 := by rw [← hw2]; exact (by repeat (first | exact Below.refl _ _ | assumption | refine bel_drew ?_ | refine bel_drewN ?_ _ | refine bel_alloc ?_ _ | refine bel_set ?_ (by first | (dsimp only; omega) | (simp; done) | (simp; omega)) _ | refine bel_trans ?_ (by assumption)))
  have cp : w2.cell? ⟨X.heap.size, 0, none⟩ = some (.pointer (some ⟨w1.heap.size, 0, none⟩)) := by rw [← hw2]; simp [go_sem]
  have cw : w2.cell? ⟨X.heap.size + 1, 0, none⟩ = some (.int .i64 wt) := by rw [← hw2]; simp [go_sem]
  have s2 : w2.heap.size = w1.heap.size + 3 := by rw [← hw2]; simp [sX]
  rw [sX] at cp cw
  have hat : ResAt s w2 w1.heap.size [] ⟨ts, ms, free⟩ (.slice none 0 0) b2 b5 ts.length := by
    have h1 := HL.out
    have h2 := HML.out
    have l2' := R2.out.lt
    have l5' := R5.out.lt
    refine res_start ((R2.out.keep BX.out).keep b2X) ((R5.out.keep BX.out).keep b2X) ?_ (by omega) (by omega) n25 (by omega) (by omega) (by omega) HB.out HMB.out BF.out (by omega) (by omega)
    rw [h1, h2]; exact RX.out.keep b2X
  have LT2 := R2.out.lt
  have LT5 := R5.out.lt
  clear hw2
  have R8w := Lib.hid ((R8.out.keep BX.out).keep b2X)
  have R9w := Lib.hid ((R9.out.keep BX.out).keep b2X)
  have CW2 : Hid (Chg (fun k => s ≤ k) w w2) := Lib.hid (((Chg.of_below HB1.out).trans (Chg.of_below BX.out)).trans (Chg.of_below b2X))
  have hown : ∀ k, resOwn w1.heap.size b2 b5 (.slice none 0 0) k → s + 1 < k := fun k e => by
    rcases e with e | e | e | e
    · omega
    · omega
    · omega
    · cases e
  have OWN := Lib.hid hown
  refine (wpIn_wide (n := 3)).1 ?_
  refine range_grants (n := 3) (pb := w1.heap.size + 1) (wb := w1.heap.size + 1 + 1) false rfl rfl hat cp cw bw (fun k => k = s ∨ k = s + 1) (fun k e => by omega) ?_ ?_ ?_ (by omega) (by omega)
    (fun W => RowA W s 56 [.slice none 0 0, .slice none 0 0, .slice none 0 0, .int .i64 0] ∧ RowA W (s + 1) 4 [.bool false])
    (fun gr S vg W => RowA W s 56 [vg, .slice (some ⟨b2, 0, none⟩) S.left.length ts.length, .slice (some ⟨b5, 0, none⟩) S.ms.length S.ms.length, .int .i64 S.free] ∧ RowA W (s + 1) 4 [.bool true])
    (fun A A' hA hc => ⟨hA.1.chg hc (fun e => e (.inl rfl)), hA.2.chg hc (fun e => e (.inr rfl))⟩) (fun gr S vg A A' hA hc => ⟨hA.1.chg hc (fun e => e (.inl rfl)), hA.2.chg hc (fun e => e (.inr rfl))⟩) ⟨R8w.out, R9w.out⟩
    (fun t => { tmps := #[.slice TA tn tc, .int .i64 free, .int .i64 wt, .slice MA mn mc, undef, undef, undef, undef, .pointer (some ⟨s, 0, none⟩), .pointer (some ⟨s + 1, 0, none⟩), .pointer (some ⟨w1.heap.size, 0, none⟩), .slice TA tn tc, .slice MA mn mc, .int .i64 free, .agg #[.slice none 0 0, .slice (some ⟨b2, 0, none⟩) tn tn, .slice (some ⟨b5, 0, none⟩) mn mn, .int .i64 free], .int .i64 wt, .func (.func 88) #[] #[.pointer (some ⟨w1.heap.size + 1, 0, none⟩), .pointer (some ⟨w1.heap.size + 1 + 1, 0, none⟩)], encT t, undef, undef], defers := [] }) ?_ ?_ ?_ ?_
  · exact fun k e => ⟨(by rcases e with e | e | e | e; omega; omega; omega; cases e), fun e2 => by have := hown k e; omega⟩
  · rintro (e | e | e | e)
    · omega
    · omega
    · omega
    · cases e
  · rintro (e | e | e | e)
    · omega
    · omega
    · omega
    · cases e
  · intro l m x W K hK
    gi_wp2
    first | exact hK | (simpa using hK) | (simpa [go_sem] using hK)
  · rintro l m gr S vg x W ⟨r8, r9⟩ hatW far
    have rr := hatW.row
    have c0 := (rr.cell 0).trans rfl
    have c1 := (rr.cell 1).trans rfl
    have c2 := (rr.cell 2).trans rfl
    have c3 := (rr.cell 3).trans rfl
    have d0 := (r8.cell 0).trans rfl
    have d1 := (r8.cell 1).trans rfl
    have d2 := (r8.cell 2).trans rfl
    have d3 := (r8.cell 3).trans rfl
    have d4 := (r9.cell 0).trans rfl
    have f0 := r8.frozen 0
    have f1 := r8.frozen 1
    have f2 := r8.frozen 2
    have f3 := r8.frozen 3
    have f4 := r9.frozen 0
    obtain ⟨A9, n9, c9, hv9⟩ := hatW.own.form
    subst hv9
    have S5 := Lib.hid (fun x0 x1 x2 x3 y => set5_rows (x0 := x0) (x1 := x1) (x2 := x2) (x3 := x3) (y := y) r8 r9)
    clear hat cp cw hatW far rr r8 r9 hown
    gi_wp2
    exact ⟨rfl, (S5.out _ _ _ _ _).2.2, (S5.out _ _ _ _ _).1, (S5.out _ _ _ _ _).2.1⟩
  · rintro gr S vg W ⟨r8, r9⟩ hat9 e1 eb e2 e3 hn ho hc hd
    obtain ⟨rfl, rfl⟩ := eb rfl
    obtain ⟨k9, hk9⟩ : ∃ k9, w2.heap.size = k9 := ⟨_, rfl⟩
    rw [hk9] at hd hn ho ⊢
    have rr := hat9.row
    have c0 := (rr.cell 0).trans rfl
    have c1 := (rr.cell 1).trans rfl
    have c2 := (rr.cell 2).trans rfl
    have c3 := (rr.cell 3).trans rfl
    have d0 := (r8.cell 0).trans rfl
    have d1 := (r8.cell 1).trans rfl
    have d2 := (r8.cell 2).trans rfl
    have d3 := (r8.cell 3).trans rfl
    have d4 := (r9.cell 0).trans rfl
    have f0 := r8.frozen 0
    have f1 := r8.frozen 1
    have f2 := r8.frozen 2
    have f3 := r8.frozen 3
    have f4 := r9.frozen 0
    obtain ⟨A9, n9, c9, hv9⟩ := hat9.own.form
    subst hv9
    have HAT := Lib.hid hat9
    have HE := Lib.hid e1
    have HD := Lib.hid hd
    have HN := Lib.hid hn
    have HO := Lib.hid ho
    have HK := Lib.hid hk9
    have CW := Lib.hid (CW2.out.trans (hc.mono (fun k _ e => e.elim (fun e => by omega) (fun e => by have := hown k e; omega))))
    have S5 := Lib.hid (fun x0 x1 x2 x3 y => set5_rows (x0 := x0) (x1 := x1) (x2 := x2) (x3 := x3) (y := y) r8 r9)
    clear hat9 hat cp cw hd hn ho hk9 hc r8 r9 rr e1 e2 e3 eb b2X hown
    go_wp2_with fail
    obtain ⟨q1, q2, q3⟩ := S5.out (.slice A9 n9 c9) (.slice (some ⟨b2, 0, none⟩) ts.length ts.length) (.slice (some ⟨b5, 0, none⟩) ms.length ms.length) (.int .i64 free) (.bool false)
    refine step_end w wt (by have := HK.out; omega) HS.out q1 q2 q3 HAT.out HN.out HO.out HD.out CW.out LT2 LT5 (by omega) (by omega) (by omega) ?_
    intro F1 F2 F3 F4 F5 F6 F7 F8 F9
    refine ⟨by simp, .inl ⟨_, _, rfl, run_takeDeferred F1, ?_⟩⟩
    exact ⟨.tuple #[_, .bool false], by simp [results, Try.results41, go_sem, F2, F3, F4, F5, F6], .inl ⟨_, rfl, HE.out, F7, F8⟩⟩
  · rintro gr S vg W k _ ⟨r8, r9⟩ hat9 e1 hg e2 e3 hn ho hc hd
    subst e2
    subst e3
    obtain ⟨k9, hk9⟩ : ∃ k9, w2.heap.size = k9 := ⟨_, rfl⟩
    rw [hk9] at hd hn ho ⊢
    obtain ⟨A9, n9, c9, hv9⟩ := hat9.own.form
    subst hv9
    have HAT := Lib.hid hat9
    have HE := Lib.hid e1
    have HG := Lib.hid hg
    have HD := Lib.hid hd
    have HN := Lib.hid hn
    have HO := Lib.hid ho
    have HK := Lib.hid hk9
    have HR8 := Lib.hid r8
    have HR9 := Lib.hid r9
    have CW := Lib.hid (CW2.out.trans (hc.mono (fun k _ e => e.elim (fun e => by omega) (fun e => by have := hown k e; omega))))
    clear hat9 hat cp cw hd hn ho hk9 hc r8 r9 e1 b2X hown hg
    gi_wp2
    refine step_end w wt (by have := HK.out; omega) HS.out HR8.out HR9.out (Chg.refl _ _) HAT.out HN.out HO.out HD.out CW.out LT2 LT5 (by omega) (by omega) (by omega) ?_
    intro F1 F2 F3 F4 F5 F6 F7 F8 F9
    refine ⟨by simp, .inl ⟨_, _, rfl, run_takeDeferred F1, ?_⟩⟩
    exact ⟨.tuple #[_, .bool true], by simp [results, Try.results41, go_sem, F2, F3, F4, F5, F6], .inr ⟨_, k, rfl, HE.out, HG.out, F7, F8⟩⟩
end Go.Proofs.Ythmjbfocpdiikaa
/-
  Layer 35 (grant): the walk of GrantParts.
-/
namespace Go.Proofs.Ythmjbfocpdiikaa
open Go.RowKit
set_option linter.unusedVariables false
set_option linter.unusedSimpArgs false
attribute [local go_sem] drewN_alloc drewN_setCell

variable {w w' : World}
theorem app_listT2 {ops : Array Oper} {rest : List Oper} {o : Oper} {a : Act} {Q : Exit → Act → World → Prop} (hgd : o.guard = none) (s x : Operand)
    (ho : o.op = .call { callee := .builtin .append, args := #[s, x], argTypes := #[43, 43] })
    (B : Nat) (v : Value) (l : List SK.Tick) (hsv : a.eval s = v) (hown : OwnT B w v l)
    (A : Option Addr) (m c : Nat) (l2 : List SK.Tick) (hx : a.eval x = .slice A m c) (hs : SrcS 5 w A m (cellsT l2)) (hlen : l.length + m ≤ 1048576) (hbase : B ≤ w.heap.size)
    (h : ∀ v' w', OwnT B w' v' (l ++ l2) → w.grownBy w' v.ownBlock → wpList Try.prog ops Q rest (a.put o.dst v') w') : wpList Try.prog ops Q (o :: rest) a w :=
  wpList_plain hgd fun _ hK => app_operT s x ho B v l hsv hown A m c l2 hx hs hlen hbase (fun v' w' h2 h3 _ => hK _ _ (h v' w' h2 h3))
theorem TickAt.chgx {A : Option Addr} {n : Nat} {l : List SK.Tick} {own : Nat → Prop} (h : TickAt w A n l) (hc : Chg own w w') (hn : ∀ b off, A = some ⟨b, off, none⟩ → 0 < n → ¬ own b) : TickAt w' A n l :=
  ⟨h.1, h.2.1, h.2.2.1, fun h0 => by
    obtain ⟨b, off, e, hb, hcc⟩ := h.2.2.2 h0
    have hk := hc.block b hb (hn b off e h0)
    have key : ∀ o, w'.cell? ⟨b, o, none⟩ = w.cell? ⟨b, o, none⟩ := fun o => World.cell?_of_block (w := w) hk
    refine ⟨b, off, e, Nat.lt_of_lt_of_le hb hc.size, fun i hi => ?_⟩
    obtain ⟨x0, x1, x2, x3, x4⟩ := hcc i hi
    exact ⟨(key _).trans x0, (key _).trans x1, (key _).trans x2, (key _).trans x3, (key _).trans x4⟩⟩
theorem tickO {B g n c : Nat} {l : List SK.Tick} (h : OwnT B w (.slice (some ⟨g, 0, none⟩) n c) l) (hb : ∀ t ∈ l, TickBd t) : TickAt w (some ⟨g, 0, none⟩) l.length l := by
  obtain ⟨A, c', e, h1, _, _⟩ := h.tick hb
  injection e with e1 e2 e3
  subst e1
  exact h1
/-- Where the law's loop stands. -/
structure PSt (X : World) (x : Nat) (wt : Int) (GR : List SK.Tick) (SE : GN.St) (al : Value) (wr : World) (S : GN.St) (G : List SK.Tick) (vg : Value) (AL AM : Option Addr) (cl cm : Nat) : Prop where
  own : OwnT X.heap.size wr al G
  row : RowA wr x 56 [vg, .slice AL S.left.length cl, .slice AM S.ms.length cm, .int .i64 S.free]
  left : TickAt wr AL S.left.length S.left
  mem : MemAt wr AM S.ms.length S.ms
  ll : S.left.length ≤ 1000
  lm : S.ms.length ≤ 1000
  bf : Bd S.free
  run1 : G ++ (GN.run S.left.length wt S).1 = GR
  run2 : (GN.run S.left.length wt S).2 = SE
  bg : ∀ t ∈ G, TickBd t
  chg : Chg (fun k => k = x ∨ X.heap.size ≤ k) X wr
def PRel (X : World) (x : Nat) (wt : Int) (GR : List SK.Tick) (SE : GN.St) (al i : Value) (wr : World) : Prop := ∃ (S : GN.St) (G : List SK.Tick) (vg : Value) (AL AM : Option Addr) (cl cm : Nat), i = .int .i64 (G.length : Nat) ∧ PSt X x wt GR SE al wr S G vg AL AM cl cm

theorem law35_long_GrantParts {TA MA : Option Addr} {tn mn : Nat} (tc mc : Nat) (f wt : Int) (w : World) (hn : 12 < tn ∨ 12 < mn) :
    Calls Try.prog 11 #[.agg #[.slice TA tn tc, .int .i64 f, .int .i64 wt, .slice MA mn mc]] w fun e w' => e = .returned (.bool true) ∧ Below w.heap.size w w' := by
  have K := Lib.hid law35_works
  rcases Nat.lt_or_ge 12 tn with h1 | h1
  · have g1 : decide ((12 : Int) < (tn : Int)) = true := decide_eq_true (by omega)
    go_enter Try.func11, Try.ntmps11
    go_wp2_with fail
    try (go_quiet (fail); go_wp2_with fail)
    refine (K.out _).mono ?_
    rintro e w1 ⟨rfl, h1⟩
    go_wp2_with fail
    exact bodyPost_ret (v := .bool true) (by simp [results, Try.results11, go_sem]) rfl ⟨rfl, (by repeat (first | exact Below.refl _ _ | assumption | refine bel_drew ?_ | refine bel_drewN ?_ _ | refine bel_alloc ?_ _ | refine bel_set ?_ (by first | (dsimp only; omega) | (simp; done) | (simp; omega)) _ | refine bel_trans ?_ (by assumption)))⟩
  · have g1 : decide ((12 : Int) < (tn : Int)) = false := decide_eq_false (by omega)
    have g2 : decide ((12 : Int) < (mn : Int)) = true := decide_eq_true (by omega)
    go_enter Try.func11, Try.ntmps11
    go_wp2_with fail
    try (go_quiet (fail); go_wp2_with fail)
    refine (K.out _).mono ?_
    rintro e w1 ⟨rfl, h1⟩
    go_wp2_with fail
    exact bodyPost_ret (v := .bool true) (by simp [results, Try.results11, go_sem]) rfl ⟨rfl, (by repeat (first | exact Below.refl _ _ | assumption | refine bel_drew ?_ | refine bel_drewN ?_ _ | refine bel_alloc ?_ _ | refine bel_set ?_ (by first | (dsimp only; omega) | (simp; done) | (simp; omega)) _ | refine bel_trans ?_ (by assumption)))⟩

set_option maxRecDepth 100000 in
set_option maxHeartbeats 16000000 in
theorem law35_GrantParts_some {TA MA : Option Addr} {tn mn : Nat} {ts : List SK.Tick} {ms : List PO.Mem} (tc mc : Nat) (f wt : Int) {w : World} (h : TickAt w TA tn ts) (hm : MemAt w MA mn ms) (bf : -9223372036854775808 ≤ f ∧ f ≤ 9223372036854775807) (bw : -9223372036854775808 ≤ wt ∧ wt ≤ 9223372036854775807) (htc : tn ≤ tc) (hcm : tc ≤ 9223372036854775807) (h1 : tn ≤ 12) (h2 : mn ≤ 12) :
    Calls Try.prog 11 #[.agg #[.slice TA tn tc, .int .i64 f, .int .i64 wt, .slice MA mn mc]] w fun e w' => e = .returned (.bool true) ∧ Below w.heap.size w w' := by
  obtain ⟨p, hp⟩ : ∃ p, w.heap.size = p := ⟨_, rfl⟩
  obtain ⟨V, hV⟩ : ∃ V, w.alloc (.cells #[.slice TA tn tc, .int .i64 f, .int .i64 wt, .slice MA mn mc] 45) = V := ⟨_, rfl⟩
  have hB : Below w.heap.size w V := by rw [← hV]; exact (by repeat (first | exact Below.refl _ _ | assumption | refine bel_drew ?_ | refine bel_drewN ?_ _ | refine bel_alloc ?_ _ | refine bel_set ?_ (by first | (dsimp only; omega) | (simp; done) | (simp; omega)) _ | refine bel_trans ?_ (by assumption)))
  have sV : p < V.heap.size := by rw [← hV, ← hp]; simp
  have hS : Hid (∀ W : World, Below V.heap.size V W → W.cell? ⟨p, 0, none⟩ = some (.slice TA tn tc) ∧ W.cell? ⟨p, 1, none⟩ = some (.int .i64 f) ∧ W.cell? ⟨p, 2, none⟩ = some (.int .i64 wt) ∧ W.cell? ⟨p, 3, none⟩ = some (.slice MA mn mc)) := Lib.hid (fun W hW =>
    ⟨(hW.cell sV).trans (by rw [← hV, ← hp]; simp [go_sem]), (hW.cell sV).trans (by rw [← hV, ← hp]; simp [go_sem]), (hW.cell sV).trans (by rw [← hV, ← hp]; simp [go_sem]), (hW.cell sV).trans (by rw [← hV, ← hp]; simp [go_sem])⟩)
  have HT : Hid (∀ W, Below V.heap.size V W → TickAt W TA tn ts) := Lib.hid (fun W hW => (h.keep hB).keep hW)
  have HM : Hid (∀ W, Below V.heap.size V W → MemAt W MA mn ms) := Lib.hid (fun W hW => (hm.keep hB).keep hW)
  have HL : Hid (ts.length = tn) := Lib.hid h.1
  have HML : Hid (ms.length = mn) := Lib.hid hm.1
  have g1 : decide ((12 : Int) < (tn : Int)) = false := decide_eq_false (by omega)
  have g2 : decide ((12 : Int) < (mn : Int)) = false := decide_eq_false (by omega)
  have g1' : ¬ (12 : Int) < (tn : Int) := by omega
  have g2' : ¬ (12 : Int) < (mn : Int) := by omega
  have HV := Lib.hid hV
  have HP := Lib.hid hp
  have HB := Lib.hid hB
  clear h hm hV hp hB
  go_enter Try.func11, Try.ntmps11
  go_upto_region 1 with (fail)
  rw [HV.out, HP.out]
  obtain ⟨c0, c1, c2, c3⟩ := hS.out V (Below.refl _ _)
  have KR := grant_Run tc mc f wt (HT.out V (Below.refl _ _)) (HM.out V (Below.refl _ _)) (by omega) (by omega) bf bw
  have q0 := GN.run_end tn wt ⟨ts, ms, f⟩ (by show ts.length ≤ tn; rw [HL.out]; exact Nat.le_refl _)
  obtain ⟨R, hR⟩ : ∃ R, GN.run tn wt ⟨ts, ms, f⟩ = R := ⟨_, rfl⟩
  rw [hR] at KR q0
  obtain ⟨GR, SE⟩ := R
  dsimp only at KR q0
  have hlen : GR.length ≤ tn := by have := q0.2.1; rw [show (⟨ts, ms, f⟩ : GN.St).left.length = tn from HL.out] at this; omega
  have HR := Lib.hid hR
  replace KR := Lib.hid KR
  clear hR q0
  go_wp2_with fail
  refine KR.out.mono ?_
  rintro e w5 ⟨v, rfl, ⟨vg, bl, bm, c5, rfl, og, ol, om, hbm, ql, qg, qm, qf, qn, qn2⟩, b5⟩
  obtain ⟨Ag, cg, rfl, -, -, -⟩ := og.tick qg
  have OG := Lib.hid og
  have OL := Lib.hid ol
  have OM := Lib.hid om
  have QL := Lib.hid ql
  have QG := Lib.hid qg
  have QM := Lib.hid qm
  have QN2 := Lib.hid qn2
  have B5 := Lib.hid b5
  clear c0 c1 c2 c3 og ol om ql qg qm b5 KR qf qn qn2 hbm
  obtain ⟨c0, c1, c2, c3⟩ := hS.out (w5.alloc (.cells #[.slice Ag GR.length cg, .slice (some ⟨bl, 0, none⟩) SE.left.length c5, .slice (some ⟨bm, 0, none⟩) SE.ms.length SE.ms.length, .int .i64 SE.free] 56)) (bel_alloc B5.out _)
  go_upto_region 5 with (fail)
  refine region_nameL ?_
  rintro X hX
  obtain ⟨rb, hrb⟩ : ∃ rb, w5.heap.size = rb := ⟨_, rfl⟩
  have bX : Below w5.heap.size w5 X := by rw [hX]; exact (by repeat (first | exact Below.refl _ _ | assumption | refine bel_drew ?_ | refine bel_drewN ?_ _ | refine bel_alloc ?_ _ | refine bel_set ?_ (by first | (dsimp only; omega) | (simp; done) | (simp; omega)) _ | refine bel_trans ?_ (by assumption)))
  have rX : RowA X rb 56 [.slice Ag GR.length cg, .slice (some ⟨bl, 0, none⟩) SE.left.length c5, .slice (some ⟨bm, 0, none⟩) SE.ms.length SE.ms.length, .int .i64 SE.free] := by rw [hX, ← hrb]; exact (RowA.new w5 56 _).keep (bel_alloc (Below.refl _ _) _)
  have rx : RowA X (rb + 1) 56 [.slice none 0 0, .slice TA tn tc, .slice MA mn mc, .int .i64 f] := by
    have := RowA.new (w5.alloc (.cells #[.slice Ag GR.length cg, .slice (some ⟨bl, 0, none⟩) SE.left.length c5, .slice (some ⟨bm, 0, none⟩) SE.ms.length SE.ms.length, .int .i64 SE.free] 56)) 56 [.slice none 0 0, .slice TA tn tc, .slice MA mn mc, .int .i64 f]
    rw [World.size_alloc, hrb] at this
    rw [hX]; exact this
  have sX : X.heap.size = rb + 2 := by rw [hX]; simp [hrb]
  have BX : Below V.heap.size V X := B5.out.trans (bX.mono B5.out.size)
  have sV5 : V.heap.size ≤ rb := by rw [← hrb]; exact B5.out.size
  have OGX := Lib.hid (OG.out.keep bX)
  have OLX := Lib.hid (OL.out.keep bX)
  have OMX := Lib.hid (OM.out.keep bX)
  have lgX : ∀ k, (Value.slice Ag GR.length cg).ownBlock = some k → k < rb := fun k e => by rw [← hrb]; exact (OG.out.ltB k e).2
  have llX : bl < rb := by rw [← hrb]; exact (OL.out.ltB bl rfl).2
  have lmX : bm < rb := by rw [← hrb]; exact OM.out.lt
  have ST0 : Hid (PRel X (rb + 1) wt GR SE (.slice none 0 0) (.int .i64 0) X) := Lib.hid (by
    refine ⟨⟨ts, ms, f⟩, [], .slice none 0 0, TA, MA, tc, mc, rfl, ⟨OwnT.nil _ _, ?_, ?_, ?_, ?_, ?_, bf, ?_, ?_, (fun _ h => by cases h), Chg.refl _ _⟩⟩
    · rw [show (⟨ts, ms, f⟩ : GN.St).left.length = tn from HL.out, show (⟨ts, ms, f⟩ : GN.St).ms.length = mn from HML.out]; exact rx
    · rw [show (⟨ts, ms, f⟩ : GN.St).left.length = tn from HL.out]; exact HT.out X BX
    · rw [show (⟨ts, ms, f⟩ : GN.St).ms.length = mn from HML.out]; exact HM.out X BX
    · rw [show (⟨ts, ms, f⟩ : GN.St).left.length = tn from HL.out]; omega
    · rw [show (⟨ts, ms, f⟩ : GN.St).ms.length = mn from HML.out]; omega
    · rw [show (⟨ts, ms, f⟩ : GN.St).left.length = tn from HL.out, HR.out]; rfl
    · rw [show (⟨ts, ms, f⟩ : GN.St).left.length = tn from HL.out, HR.out])
  have HC : Hid (∀ W, Chg (fun k => k = rb + 1 ∨ X.heap.size ≤ k) X W → W.cell? ⟨rb, 0, none⟩ = some (.slice Ag GR.length cg) ∧ W.cell? ⟨rb, 1, none⟩ = some (.slice (some ⟨bl, 0, none⟩) SE.left.length c5) ∧ W.cell? ⟨rb, 2, none⟩ = some (.slice (some ⟨bm, 0, none⟩) SE.ms.length SE.ms.length) ∧ W.cell? ⟨rb, 3, none⟩ = some (.int .i64 SE.free)) := Lib.hid (fun W hW => by
    have r := rX.chg hW (fun e => by omega)
    exact ⟨(r.cell 0).trans rfl, (r.cell 1).trans rfl, (r.cell 2).trans rfl, (r.cell 3).trans rfl⟩)
  have HBW : Hid (∀ W, Chg (fun k => k = rb + 1 ∨ X.heap.size ≤ k) X W → Below V.heap.size V W) := Lib.hid (fun W hW => BX.trans (hW.below (by omega) (fun k hk => by omega)))
  have LG := Lib.hid lgX
  clear hX bX rX rx BX lgX c0 c1 c2 c3
  rw [hrb]
  go_wp2_with fail
  go_loopw [5, 6] (fun al i wr => PRel X (rb + 1) wt GR SE al i wr) (fun _ i _ => tn + 1 - (intOf i).toNat)
  case atStart => exact ST0.out
  case round =>
    clear ST0
    obtain ⟨S, G, vx, AL, AM, cl, cm, rfl, st⟩ := hrel
    obtain ⟨al, rfl⟩ : ∃ al, al = u5 := ⟨_, rfl⟩
    obtain ⟨c0, c1, c2, c3⟩ := HC.out wr st.chg
    obtain ⟨x0, x1, x2, x3⟩ := hS.out wr (HBW.out wr st.chg)
    have e0 := (st.row.cell 0).trans rfl
    have e1 := (st.row.cell 1).trans rfl
    have e2 := (st.row.cell 2).trans rfl
    have e3 := (st.row.cell 3).trans rfl
    have hgl : G.length ≤ GR.length := by rw [← st.run1, List.length_append]; omega
    have hle : (G.length : Int) ≤ (tn : Int) := by omega
    have KS : Calls Try.prog 41 #[.slice AL S.left.length cl, .int .i64 S.free, .int .i64 wt, .slice AM S.ms.length cm] wr (GivesStep wr wt S) := grant_Step cl cm S.free wt st.left st.mem st.ll st.lm st.bf bw
    have HST := Lib.hid st
    replace KS := Lib.hid KS
    clear st
    go_wp2_with fail
    refine KS.out.mono ?_
    clear c0 c1 c2 c3 x0 x1 x2 x3 e0 e1 e2 e3
    rintro e w7 (⟨v, rfl, hnx, hv, b7⟩ | ⟨v, k, rfl, hnx, hg, hv, b7⟩)
    · obtain ⟨vg7, bl7, bm7, c7, rfl, og7, -⟩ := hv
      obtain ⟨A7, n7, cc7, rfl⟩ := og7.form
      clear og7
      have st := HST.out
      have eG : G = GR := by have := st.run1; rw [GN.run_no hnx, List.append_nil] at this; exact this
      have eS : S = SE := by have := st.run2; rw [GN.run_no hnx] at this; exact this
      subst eG
      subst eS
      clear hle hgl hnx st
      have B7 := Lib.hid b7
      clear b7 KS
      go_upto_region 10 with (fail)
      refine region_nameL ?_
      rintro Y hY
      have bY : Below w7.heap.size w7 Y := by rw [hY]; exact (by repeat (first | exact Below.refl _ _ | assumption | refine bel_drew ?_ | refine bel_drewN ?_ _ | refine bel_alloc ?_ _ | refine bel_set ?_ (by first | (dsimp only; omega) | (simp; done) | (simp; omega)) _ | refine bel_trans ?_ (by assumption)))
      have BY : Below wr.heap.size wr Y := B7.out.trans (bY.mono B7.out.size)
      have CY : Chg (fun k => k = rb + 1 ∨ X.heap.size ≤ k) X Y := HST.out.chg.trans (Chg.of_below BY)
      have FA : Hid (∀ W, Below Y.heap.size Y W → (W.cell? ⟨rb, 0, none⟩ = some (.slice Ag G.length cg) ∧ W.cell? ⟨rb, 1, none⟩ = some (.slice (some ⟨bl, 0, none⟩) S.left.length c5) ∧ W.cell? ⟨rb, 2, none⟩ = some (.slice (some ⟨bm, 0, none⟩) S.ms.length S.ms.length) ∧ W.cell? ⟨rb, 3, none⟩ = some (.int .i64 S.free)) ∧
          (W.cell? ⟨rb + 1, 1, none⟩ = some (.slice AL S.left.length cl) ∧ W.cell? ⟨rb + 1, 2, none⟩ = some (.slice AM S.ms.length cm) ∧ W.cell? ⟨rb + 1, 3, none⟩ = some (.int .i64 S.free))) := Lib.hid (fun W hW => by
        have r := (HST.out.row.keep BY).keep hW
        exact ⟨HC.out W (CY.trans (Chg.of_below hW)), (r.cell 1).trans rfl, (r.cell 2).trans rfl, (r.cell 3).trans rfl⟩)
      obtain ⟨Aa, ca, hal, tal, -, -⟩ := (HST.out.own.keep BY).tick HST.out.bg
      have KT1 : Hid (∀ W, Below Y.heap.size Y W → Calls Try.prog 40 #[.slice Aa G.length ca, .slice Ag G.length cg] W fun e w' => e = .returned (.bool true) ∧ Below W.heap.size W w') := Lib.hid (fun W hW => by
        obtain ⟨A2, c2, e2, t2, -, -⟩ := (OGX.out.chg (CY.trans (Chg.of_below hW)) (fun k e => by have := LG.out k e; omega)).tick QG.out
        injection e2 with e3 e4 e5
        subst e3
        exact base_SameTickets_same ca cg (tal.keep hW) t2)
      have KT2 : Hid (∀ W, Below Y.heap.size Y W → Calls Try.prog 40 #[.slice AL S.left.length cl, .slice (some ⟨bl, 0, none⟩) S.left.length c5] W fun e w' => e = .returned (.bool true) ∧ Below W.heap.size W w') := Lib.hid (fun W hW =>
        base_SameTickets_same cl c5 ((HST.out.left.keep BY).keep hW) (tickO (OLX.out.chg (CY.trans (Chg.of_below hW)) (fun k e => by cases e; show ¬ (bl = rb + 1 ∨ X.heap.size ≤ bl); omega)) QL.out))
      have KM : Hid (∀ W, Below Y.heap.size Y W → Calls Try.prog 26 #[.slice AM S.ms.length cm, .slice (some ⟨bm, 0, none⟩) S.ms.length S.ms.length] W fun e w' => e = .returned (.bool true) ∧ Below W.heap.size W w') := Lib.hid (fun W hW =>
        base_SameMembers_same cm S.ms.length ((HST.out.mem.keep BY).keep hW) (memAt_row (OMX.out.chg (CY.trans (Chg.of_below hW)) (fun e => by omega)) QM.out QN2.out))
      have BWY : Hid (Below w.heap.size w Y) := Lib.hid (HB.out.trans ((HBW.out Y CY).mono HB.out.size))
      have hnlt : ¬ (G.length : Int) < (G.length : Int) := by omega
      obtain ⟨⟨c0, c1, c2, c3⟩, e1, e2, e3⟩ := FA.out Y (Below.refl _ _)
      clear hY bY BY CY tal
      subst hal
      go_wp2_with fail
      refine (KT1.out Y (Below.refl _ _)).mono ?_
      clear c0 c1 c2 c3 e1 e2 e3
      rintro e y1 ⟨rfl, d1⟩
      obtain ⟨⟨c0, c1, c2, c3⟩, e1, e2, e3⟩ := FA.out y1 d1
      go_wp2_with fail
      refine (KT2.out y1 d1).mono ?_
      clear c0 c1 c2 c3 e1 e2 e3
      rintro e y2 ⟨rfl, d2⟩
      have t2 : Below Y.heap.size Y y2 := d1.trans (d2.mono d1.size)
      clear d2
      obtain ⟨⟨c0, c1, c2, c3⟩, e1, e2, e3⟩ := FA.out y2 t2
      go_wp2_with fail
      refine (KM.out y2 t2).mono ?_
      clear c0 c1 c2 c3 e1 e2 e3
      rintro e y3 ⟨rfl, d3⟩
      have t3 : Below Y.heap.size Y y3 := t2.trans (d3.mono t2.size)
      clear d3
      obtain ⟨⟨c0, c1, c2, c3⟩, e1, e2, e3⟩ := FA.out y3 t3
      go_wp2_with fail
      refine (law35_works _).mono ?_
      rintro e y4 ⟨rfl, d4⟩
      have t4 : Below w.heap.size w y4 := BWY.out.trans ((t3.trans (d4.mono t3.size)).mono BWY.out.size)
      clear c0 c1 c2 c3 e1 e2 e3 d4
      go_wp2_with fail
      exact bodyPost_ret (v := .bool true) (by simp [results, Try.results11, go_sem]) rfl ⟨rfl, t4⟩
    · obtain ⟨vg7, bl7, bm7, c7, rfl, og7, ol7, om7, hbm7, ql7, qg7, qm7, qf7, qn7, qn72⟩ := hv
      have st := HST.out
      have hl := GN.step_len hg
      have er : GN.run S.left.length wt S = (GN.gtold (GN.tk S k) :: (GN.run (GN.step S k).left.length wt (GN.step S k)).1, (GN.run (GN.step S k).left.length wt (GN.step S k)).2) := by rw [← hl]; exact GN.run_yes hnx
      have r1 := st.run1
      have r2 := st.run2
      rw [er] at r1 r2
      dsimp only at r1 r2
      obtain ⟨N, hN⟩ : ∃ N, GN.step S k = N := ⟨_, rfl⟩
      obtain ⟨q, hq⟩ : ∃ q, GN.gtold (GN.tk S k) = q := ⟨_, rfl⟩
      rw [hN, hq] at r1
      rw [hN] at r2
      rw [hq] at og7 qg7 qn7
      rw [hN] at ol7 om7 ql7 qm7 qf7 qn7 qn72 ⊢
      have hlt : (G.length : Int) < (GR.length : Int) := by rw [← r1, List.length_append, List.length_cons]; omega
      obtain ⟨g7, cg7, rfl⟩ := og7.form1 (by simp)
      have ll7 := (ol7.ltB bl7 rfl).1
      have lm7 := om7.lt
      have lal : ∀ j, al.ownBlock = some j → X.heap.size ≤ j ∧ j < wr.heap.size := fun j e => st.own.ltB j e
      have sw := st.chg.size
      have wl : IntKind.i64.wrap ((G.length : Int) + 1) = (G.length : Int) + 1 := by rw [IntKind.wrap_i64]; omega
      have OG7 := Lib.hid og7
      have OL7 := Lib.hid ol7
      have OM7 := Lib.hid om7
      have QL7 := Lib.hid ql7
      have QG7 := Lib.hid qg7
      have QM7 := Lib.hid qm7
      have QF7 := Lib.hid qf7
      have QN7 := Lib.hid qn7
      have QN72 := Lib.hid qn72
      have RR1 := Lib.hid r1
      have RR2 := Lib.hid r2
      have LAL := Lib.hid lal
      have B7 := Lib.hid b7
      have HGL := Lib.hid hgl
      have s7 := b7.size
      clear hgl hnx hg st hl er r1 r2 hN hq og7 ol7 om7 ql7 qg7 qm7 qf7 qn7 qn72 lal b7 KS
      go_upto_region 10 with (fail)
      refine region_nameL ?_
      rintro Y hY
      have bY : Below w7.heap.size w7 Y := by rw [hY]; exact (by repeat (first | exact Below.refl _ _ | assumption | refine bel_drew ?_ | refine bel_drewN ?_ _ | refine bel_alloc ?_ _ | refine bel_set ?_ (by first | (dsimp only; omega) | (simp; done) | (simp; omega)) _ | refine bel_trans ?_ (by assumption)))
      have rY : RowA Y w7.heap.size 56 [.slice (some ⟨g7, 0, none⟩) 1 cg7, .slice (some ⟨bl7, 0, none⟩) N.left.length c7, .slice (some ⟨bm7, 0, none⟩) N.ms.length N.ms.length, .int .i64 N.free] := by rw [hY]; exact RowA.new w7 56 _
      have BY : Below wr.heap.size wr Y := B7.out.trans (bY.mono B7.out.size)
      have CY : Chg (fun k => k = rb + 1 ∨ X.heap.size ≤ k) X Y := HST.out.chg.trans (Chg.of_below BY)
      obtain ⟨c0, c1, c2, c3⟩ := HC.out Y CY
      have y0 := (rY.cell 0).trans rfl
      have y1 := (rY.cell 1).trans rfl
      have y2 := (rY.cell 2).trans rfl
      have y3 := (rY.cell 3).trans rfl
      have OAL := Lib.hid (HST.out.own.keep BY)
      have TG7 := Lib.hid (tickO (OG7.out.keep bY) QG7.out)
      have RX := Lib.hid (HST.out.row.keep BY)
      have RY := Lib.hid rY
      have HCY := Lib.hid CY
      have OL8 := Lib.hid (OL7.out.keep bY)
      have OM8 := Lib.hid (OM7.out.keep bY)
      have sY := bY.size
      clear hY bY rY BY CY OG7 OL7 OM7
      go_wp2_with (at_builtin; refine app_listT2 rfl (.tmp 101) (.tmp 103) rfl X.heap.size al G rfl OAL.out (some ⟨g7, 0, none⟩) 1 cg7 [q] rfl (srcT_of TG7.out) (by have := HGL.out; omega) (by omega) ?_; intro v8 w8 ho8 hg8; have C8 : Chg (fun j => al.ownBlock = some j) Y w8 := Chg.of_grown hg8 (fun _ e => e); have ry8 := RY.out.chg C8 (fun e => by have := LAL.out _ e; omega); have rx8 := RX.out.chg C8 (fun e => by have := LAL.out _ e; omega); replace C8 := Lib.hid C8; replace ho8 := Lib.hid ho8; clear y0 y1 y2 y3 c0 c1 c2 c3 hg8; have z0 := (ry8.cell 0).trans rfl; have z1 := (ry8.cell 1).trans rfl; have z2 := (ry8.cell 2).trans rfl; have z3 := (ry8.cell 3).trans rfl; have e0 := (rx8.cell 0).trans rfl; have e1 := (rx8.cell 1).trans rfl; have e2 := (rx8.cell 2).trans rfl; have e3 := (rx8.cell 3).trans rfl; have f0 := rx8.frozen 0; have f1 := rx8.frozen 1; have f2 := rx8.frozen 2; have f3 := rx8.frozen 3; replace ry8 := Lib.hid ry8; replace rx8 := Lib.hid rx8)
      go_roundw
      case rel =>
        obtain ⟨w9, hw9⟩ : ∃ w9, ((((w8.setCell ⟨rb + 1, 0, none⟩ (.slice (some ⟨g7, 0, none⟩) 1 cg7)).setCell ⟨rb + 1, 1, none⟩ (.slice (some ⟨bl7, 0, none⟩) N.left.length c7)).setCell ⟨rb + 1, 2, none⟩ (.slice (some ⟨bm7, 0, none⟩) N.ms.length N.ms.length)).setCell ⟨rb + 1, 3, none⟩ (.int .i64 N.free)) = w9 := ⟨_, rfl⟩
        rw [hw9]
        have C9 : Chg (fun j => j = rb + 1) w8 w9 := by rw [← hw9]; exact chg4 _ _ _ _
        have r9 : RowA w9 (rb + 1) 56 [.slice (some ⟨g7, 0, none⟩) 1 cg7, .slice (some ⟨bl7, 0, none⟩) N.left.length c7, .slice (some ⟨bm7, 0, none⟩) N.ms.length N.ms.length, .int .i64 N.free] := by rw [← hw9]; exact (((rx8.out.set_ 0 _).set_ 1 _).set_ 2 _).set_ 3 _
        have nl : ∀ j, al.ownBlock = some j → j < wr.heap.size := fun j e => (LAL.out j e).2
        have nx : ∀ j, al.ownBlock = some j → X.heap.size ≤ j := fun j e => (LAL.out j e).1
        refine ⟨N, G ++ [q], _, some ⟨bl7, 0, none⟩, some ⟨bm7, 0, none⟩, c7, N.ms.length, by simp, ⟨?_, r9, ?_, ?_, ?_, QN72.out, QF7.out, ?_, RR2.out, ?_, ?_⟩⟩
        · exact ho8.out.chg C9 (fun j e e2 => by have := (ho8.out.ltB j e).1; omega)
        · exact tickO ((OL8.out.chg C8.out (fun j e e2 => by cases e; have := nl bl7 e2; omega)).chg C9 (fun j e => by cases e; show ¬ bl7 = rb + 1; omega)) QL7.out
        · exact memAt_row ((OM8.out.chg C8.out (fun e2 => by have := nl bm7 e2; omega)).chg C9 (by omega)) QM7.out QN72.out
        · have := QN7.out
          simp only [List.length_cons, List.length_nil] at this
          omega
        · rw [List.append_assoc]; exact RR1.out
        · intro t ht
          rcases List.mem_append.1 ht with h | h
          · exact HST.out.bg t h
          · exact QG7.out t h
        · exact (HCY.out.trans (C8.out.mono (fun j _ e => .inr (nx j e)))).trans (C9.mono (fun j _ e => .inl e))
      case measure => simp [intOf]; omega

theorem law35_GrantParts {TA MA : Option Addr} {tn mn : Nat} {ts : List SK.Tick} {ms : List PO.Mem} (tc mc : Nat) (f wt : Int) {w : World} (h : TickAt w TA tn ts) (hm : MemAt w MA mn ms) (bf : -9223372036854775808 ≤ f ∧ f ≤ 9223372036854775807) (bw : -9223372036854775808 ≤ wt ∧ wt ≤ 9223372036854775807) (htc : tn ≤ tc) (hcm : tc ≤ 9223372036854775807) :
    Calls Try.prog 11 #[.agg #[.slice TA tn tc, .int .i64 f, .int .i64 wt, .slice MA mn mc]] w fun e w' => e = .returned (.bool true) ∧ Below w.heap.size w w' := by
  rcases Nat.lt_or_ge 12 tn with h1 | h1
  · exact law35_long_GrantParts tc mc f wt w (.inl h1)
  · rcases Nat.lt_or_ge 12 mn with h2 | h2
    · exact law35_long_GrantParts tc mc f wt w (.inr h2)
    · exact law35_GrantParts_some tc mc f wt h hm bf bw htc hcm h1 h2
end Go.Proofs.Ythmjbfocpdiikaa
/-
  Openers for slices whose elements are rows of ints (arrays, structs, nested ones).
-/
namespace Go.Proofs.Ythmjbfocpdiikaa.Fr
open Go.ChangeShapes Go.WideShapes Go.ChangeAt Go.RowKit Go.Deep

section
variable {H : Type} {enc : TypeId × Value → H} {P : Program} {w : World}

/-- A type whose cells are S ints. -/
def FlatInt {H : Type} (enc : TypeId × Value → H) (P : Program) (w : World) (sp : Nat → Bool) (e S : Nat) : Prop :=
  ∀ fuel cs x, DataW.trod enc P w 0 sp true fuel e cs = some x → cs.length = S ∧ ∀ j, j < S → ∃ n : Int, cs[j]? = some (Value.int .i64 n) ∧ -9223372036854775808 ≤ n ∧ n ≤ 9223372036854775807

theorem FlatInt.int {sp : Nat → Bool} {e : Nat} (he : P.underlying e = some (.int .i64)) : FlatInt enc P w sp e 1 := by
  intro fuel cs x h
  obtain ⟨n, rfl, _, hw⟩ := DataW.trod_int he h
  refine ⟨rfl, fun j hj => ?_⟩
  obtain rfl : j = 0 := by omega
  exact ⟨n, rfl, bounds_i64 hw⟩

theorem FlatInt.array {sp : Nat → Bool} {e n it S : Nat} (he : P.underlying e = some (.array n it)) (hi : FlatInt enc P w sp it S) (hS : P.cellsOf it = S) (hc : P.cellsOf e = n * S) (h0 : 0 < S) : FlatInt enc P w sp e (n * S) := by
  intro fuel cs x h
  obtain ⟨xs, m, _, _, hlen, hxl, hg⟩ := DataW.trod_array he h
  refine ⟨hlen.trans hc, fun j hj => ?_⟩
  have hq : j / S < n := Nat.div_lt_of_lt_mul (by rw [Nat.mul_comm]; exact hj)
  have h1 := hg (j / S) hq
  have hx : xs[j / S]? = some (xs[j / S]'(by omega)) := List.getElem?_eq_getElem (by omega)
  rw [hx, hS] at h1
  obtain ⟨_, h2⟩ := hi _ _ _ h1
  obtain ⟨v, hv, hb⟩ := h2 (j % S) (Nat.mod_lt _ h0)
  refine ⟨v, ?_, hb⟩
  rw [List.getElem?_take, if_pos (Nat.mod_lt _ h0), List.getElem?_drop] at hv
  rw [← hv]
  congr 1
  have := Nat.div_add_mod j S
  rw [Nat.mul_comm] at this
  omega

theorem FlatInt.struct {sp : Nat → Bool} {e S : Nat} {fs : Array Field} (he : P.underlying e = some (.struct fs)) (hc : P.cellsOf e = S)
    (hf : ∀ j, j < S → ∃ (i : Nat) (f : Field), fs[i]? = some f ∧ f.offset ≤ j ∧ j < f.offset + P.cellsOf f.type ∧ FlatInt enc P w sp f.type (P.cellsOf f.type)) : FlatInt enc P w sp e S := by
  intro fuel cs x h
  obtain ⟨xs, m, _, _, hlen, hxl, hg⟩ := DataW.trod_struct he h
  refine ⟨hlen.trans hc, fun j hj => ?_⟩
  obtain ⟨i, f, hfi, h1, h2, hfl⟩ := hf j hj
  have hil : i < fs.size := (Array.getElem?_eq_some_iff.1 hfi).1
  have h3 := hg i f hfi
  have hx : xs[i]? = some (xs[i]'(by omega)) := List.getElem?_eq_getElem (by omega)
  rw [hx] at h3
  obtain ⟨_, h4⟩ := hfl _ _ _ h3
  obtain ⟨v, hv, hb⟩ := h4 (j - f.offset) (by omega)
  refine ⟨v, ?_, hb⟩
  rw [List.getElem?_take, if_pos (by omega), List.getElem?_drop] at hv
  rw [← hv]
  congr 1
  omega

/-- What the walk is told of a slice of rows of S ints that came in. -/
def IsRows (w : World) (S : Nat) (a : Option Addr) (len cap : Nat) (F : Nat → Nat → Int) : Prop :=
  (a = none ∧ len = 0 ∧ cap = 0) ∨
  ∃ b off, a = some ⟨b, off, none⟩ ∧ (0 < len → b < w.heap.size) ∧ len ≤ cap ∧ cap ≤ maxLen ∧
    ∀ i, i < cap → ∀ j, j < S → w.cell? ⟨b, off + i * S + j, none⟩ = some (.int .i64 (F i j)) ∧ -9223372036854775808 ≤ F i j ∧ F i j ≤ 9223372036854775807

theorem open_rows {t e S : Nat} {a : Option Addr} {len cap : Nat} {d : DataW H} {ps : List MemPlace} {base : Nat} (ht : P.underlying t = some (.slice e)) (hS : P.cellsOf e = S) (h0 : 0 < S)
    (hfl : FlatInt enc P w (fun _ => true) e S)
    (h : DataW.Trod enc P w 0 (fun _ => true) true t (.slice a len cap) d ps) (hv : Value.okWide P w .any base t (.slice a len cap)) : ∃ F, IsRows w S a len cap F := by
  obtain ⟨fuel, hf⟩ := h
  rcases open_slice ht hf with ⟨hcs, _⟩ | ⟨x, l, c, m, n, D, Pl, hcs, hb, hl, hm, hmm, hx, hi⟩
  · simp [Value.cells] at hcs
    obtain ⟨rfl, rfl, rfl⟩ := hcs
    exact ⟨fun _ _ => 0, .inl ⟨rfl, rfl, rfl⟩⟩
  · simp [Value.cells] at hcs
    obtain ⟨rfl, rfl, rfl⟩ := hcs
    simp only [if_true] at hmm
    subst hmm
    have hsp : x.spot = none := by
      unfold Value.okWide at hv
      rw [ht] at hv
      simp only at hv
      unfold Cell.okWide at hv
      rw [ht] at hv
      simp only at hv
      unfold Cell.ok at hv
      rw [ht] at hv
      simp only at hv
      exact hv.2.2.2.1
    obtain ⟨b, off, spot⟩ := x
    simp only at hsp
    subst hsp
    have key : ∀ i j, i < m → j < S → ∃ v : Int, w.cell? ⟨b, off + i * S + j, none⟩ = some (.int .i64 v) ∧ -9223372036854775808 ≤ v ∧ v ≤ 9223372036854775807 := by
      intro i j him hjS
      obtain ⟨cs', hc, ht'⟩ := hi i him
      rw [hS] at hc
      obtain ⟨hlen, hfj⟩ := hfl _ _ _ ht'
      obtain ⟨v, hv', hb'⟩ := hfj j hjS
      obtain ⟨_, _, hat⟩ := World.cells?_some hc
      have hcell := hat j hjS
      refine ⟨v, ?_, hb'⟩
      rw [← hv', ← hcell]
      congr 1
      simp only [Addr.add]
      split <;> split <;> simp_all [Nat.add_assoc]
    refine ⟨fun i j => match w.cell? ⟨b, off + i * S + j, none⟩ with | some (.int _ n) => n | _ => 0, .inr ⟨b, off, rfl, fun hl0 => ?_, hl, hm, fun i him j hjS => ?_⟩⟩
    · obtain ⟨v, hv', _⟩ := key 0 0 (by omega) h0
      exact World.block_lt_of_cell? _ _ hv'
    · obtain ⟨v, hv', hb'⟩ := key i j him hjS
      simp only [hv']
      exact ⟨trivial, hb'⟩
end
end Go.Proofs.Ythmjbfocpdiikaa.Fr
/-
  Members that came in.
-/
namespace Go.Proofs.Ythmjbfocpdiikaa
open Go.RowKit
set_option linter.unusedVariables false

theorem mem_of_rows {w : World} {a : Option Addr} {len cap : Nat} {F : Nat → Nat → Int} (h : Fr.IsRows w 4 a len cap F) : ∃ l, MemAt w a len l := by
  rcases h with ⟨rfl, rfl, rfl⟩ | ⟨b, off, rfl, hb, hl, hm, hc⟩
  · exact ⟨[], MemAt.nil⟩
  · refine ⟨(List.range len).map (fun i => (F i 0, F i 1, F i 2, F i 3)), by simp, by unfold maxLen at hm; omega, fun m hmm => ?_, fun h0 => ⟨b, off, rfl, hb h0, fun i hi => ?_⟩⟩
    · obtain ⟨i, hi, rfl⟩ := List.mem_map.1 hmm
      have hi' : i < cap := by simp at hi; omega
      exact ⟨(hc i hi' 0 (by omega)).2, (hc i hi' 1 (by omega)).2, (hc i hi' 2 (by omega)).2, (hc i hi' 3 (by omega)).2⟩
    · have e : ((List.range len).map (fun i => ((F i 0, F i 1, F i 2, F i 3) : PO.Mem))).getD i PO.m0 = (F i 0, F i 1, F i 2, F i 3) := by simp [List.getD, hi]
      rw [e]
      have hi' : i < cap := by omega
      exact ⟨(hc i hi' 0 (by omega)).1, (hc i hi' 1 (by omega)).1, (hc i hi' 2 (by omega)).1, (hc i hi' 3 (by omega)).1⟩

set_option maxRecDepth 100000 in
theorem memFlat {H : Type} (enc : TypeId × Value → H) (w : World) : Fr.FlatInt enc Try.prog w (fun _ => true) 34 4 := by
  have hc1 : Try.prog.cellsOf 3 = 1 := by kernel_rfl
  have hc3 : Try.prog.cellsOf 32 = 3 := by kernel_rfl
  have hi : Fr.FlatInt enc Try.prog w (fun _ => true) 3 (Try.prog.cellsOf 3) := by rw [hc1]; exact Fr.FlatInt.int Try.underlying3
  have ha : Fr.FlatInt enc Try.prog w (fun _ => true) 32 (Try.prog.cellsOf 32) := by
    rw [hc3]
    refine Fr.FlatInt.struct (S := 3) Try.underlying32 (by kernel_rfl) (fun j hj => ?_)
    have hj' : j = 0 ∨ j = 1 ∨ j = 2 := by omega
    rcases hj' with rfl | rfl | rfl
    · exact ⟨0, _, rfl, Nat.zero_le _, by show 0 < 0 + Try.prog.cellsOf 3; rw [hc1]; omega, hi⟩
    · exact ⟨1, _, rfl, Nat.le_refl 1, by show 1 < 1 + Try.prog.cellsOf 3; rw [hc1]; omega, hi⟩
    · exact ⟨2, _, rfl, Nat.le_refl 2, by show 2 < 2 + Try.prog.cellsOf 3; rw [hc1]; omega, hi⟩
  refine Fr.FlatInt.struct (S := 4) Try.underlying34 (by kernel_rfl) (fun j hj => ?_)
  have hj' : j = 0 ∨ (1 ≤ j ∧ j < 4) := by omega
  rcases hj' with rfl | ⟨h1, h2⟩
  · exact ⟨0, _, rfl, Nat.zero_le _, by show 0 < 0 + Try.prog.cellsOf 3; rw [hc1]; omega, hi⟩
  · exact ⟨1, _, rfl, h1, by show j < 1 + Try.prog.cellsOf 32; rw [hc3]; omega, ha⟩
end Go.Proofs.Ythmjbfocpdiikaa
/-
  What is asked of layer 34, as it came in: tickets, two numbers, members.
-/
namespace Go.Proofs.Ythmjbfocpdiikaa
open Go.RowKit
set_option linter.unusedVariables false

theorem tick_of_rows {w : World} {a : Option Addr} {len cap : Nat} {F : Nat → Nat → Int} (h : Fr.IsRows w 5 a len cap F) : ∃ l, TickAt w a len l ∧ len ≤ cap ∧ cap ≤ 9223372036854775807 := by
  rcases h with ⟨rfl, rfl, rfl⟩ | ⟨b, off, rfl, hb, hl, hm, hc⟩
  · exact ⟨[], TickAt.nil, by omega, by omega⟩
  · have hm' : cap ≤ 9223372036854775807 := by unfold maxLen at hm; omega
    refine ⟨(List.range len).map (fun i => (F i 0, F i 1, F i 2, F i 3, F i 4)), ⟨by simp, by omega, fun m hmm => ?_, fun h0 => ⟨b, off, rfl, hb h0, fun i hi => ?_⟩⟩, hl, hm'⟩
    · obtain ⟨i, hi, rfl⟩ := List.mem_map.1 hmm
      have hi' : i < cap := by simp at hi; omega
      exact ⟨(hc i hi' 0 (by omega)).2, (hc i hi' 1 (by omega)).2, (hc i hi' 2 (by omega)).2, (hc i hi' 3 (by omega)).2, (hc i hi' 4 (by omega)).2⟩
    · have e : ((List.range len).map (fun i => ((F i 0, F i 1, F i 2, F i 3, F i 4) : SK.Tick))).getD i SK.t0 = (F i 0, F i 1, F i 2, F i 3, F i 4) := by simp [List.getD, hi]
      rw [e]
      have hi' : i < cap := by omega
      exact ⟨(hc i hi' 0 (by omega)).1, (hc i hi' 1 (by omega)).1, (hc i hi' 2 (by omega)).1, (hc i hi' 3 (by omega)).1, (hc i hi' 4 (by omega)).1⟩

set_option maxRecDepth 100000 in
theorem tickFlat {H : Type} (enc : TypeId × Value → H) (w : World) : Fr.FlatInt enc Try.prog w (fun _ => true) 51 5 := by
  have hc1 : Try.prog.cellsOf 3 = 1 := by kernel_rfl
  have hi : Fr.FlatInt enc Try.prog w (fun _ => true) 3 (Try.prog.cellsOf 3) := by rw [hc1]; exact Fr.FlatInt.int Try.underlying3
  refine Fr.FlatInt.struct (S := 5) Try.underlying51 (by kernel_rfl) (fun j hj => ?_)
  have hj' : j = 0 ∨ j = 1 ∨ j = 2 ∨ j = 3 ∨ j = 4 := by omega
  rcases hj' with rfl | rfl | rfl | rfl | rfl
  · exact ⟨0, _, rfl, Nat.zero_le _, by show 0 < 0 + Try.prog.cellsOf 3; rw [hc1]; omega, hi⟩
  · exact ⟨1, _, rfl, Nat.le_refl 1, by show 1 < 1 + Try.prog.cellsOf 3; rw [hc1]; omega, hi⟩
  · exact ⟨2, _, rfl, Nat.le_refl 2, by show 2 < 2 + Try.prog.cellsOf 3; rw [hc1]; omega, hi⟩
  · exact ⟨3, _, rfl, Nat.le_refl 3, by show 3 < 3 + Try.prog.cellsOf 3; rw [hc1]; omega, hi⟩
  · exact ⟨4, _, rfl, Nat.le_refl 4, by show 4 < 4 + Try.prog.cellsOf 3; rw [hc1]; omega, hi⟩
end Go.Proofs.Ythmjbfocpdiikaa
namespace Go.Proofs.Ythmjbfocpdiikaa.Fr
open Go.ChangeShapes Go.WideShapes Go.ChangeAt Go.RowKit Go.Deep
set_option maxRecDepth 100000 in
set_option maxHeartbeats 2000000 in
theorem open_ask {H : Type} {enc : TypeId × Value → H} {w : World} {base : Nat} {v : Value} {d : DataW H} {ps : List MemPlace}
    (hv : Value.okWide Try.prog w .any base 45 v) (h : DataW.Trod enc Try.prog w 0 (fun _ => true) true 45 v d ps) :
    ∃ TA tn tc f wt MA mn mc ts ms, v = .agg #[.slice TA tn tc, .int .i64 f, .int .i64 wt, .slice MA mn mc] ∧ TickAt w TA tn ts ∧ tn ≤ tc ∧ tc ≤ 9223372036854775807 ∧ MemAt w MA mn ms ∧
      (-9223372036854775808 ≤ f ∧ f ≤ 9223372036854775807) ∧ (-9223372036854775808 ≤ wt ∧ wt ≤ 9223372036854775807) := by
  obtain ⟨f0, f1, f2, f3, ht, e0, o0, e3, o3⟩ : ∃ f0 f1 f2 f3 : Field, Try.prog.underlying 45 = some (.struct #[f0, f1, f2, f3]) ∧ f0.type = 43 ∧ f0.offset = 0 ∧ f3.type = 23 ∧ f3.offset = 3 := ⟨_, _, _, _, Try.underlying45, rfl, rfl, rfl, rfl⟩
  have h' : ∃ cs, v = .agg cs ∧ cs.size = Try.prog.cellsOf 45 ∧ Row.okWide Try.prog w .any base 45 cs := by simpa [Value.okWide, ht] using hv
  obtain ⟨cs, rfl, hsz, ts, hts, _, hcell⟩ := h'
  rw [show Try.prog.cellTypes Try.prog.depth 45 = some [43, 3, 3, 23] by kernel_rfl] at hts
  obtain rfl := Option.some.inj hts
  rw [show Try.prog.cellsOf 45 = 4 by kernel_rfl] at hsz
  obtain ⟨x, y, z, u, rfl⟩ : ∃ x y z u, cs = #[x, y, z, u] := by
    obtain ⟨l⟩ := cs
    match l, hsz with
    | [x, y, z, u], _ => exact ⟨x, y, z, u, rfl⟩
  obtain ⟨u0, hu0, hx⟩ := hcell 0 x rfl
  obtain ⟨u1, hu1, hy⟩ := hcell 1 y rfl
  obtain ⟨u2, hu2, hz⟩ := hcell 2 z rfl
  obtain ⟨u3, hu3, hu⟩ := hcell 3 u rfl
  obtain rfl := Option.some.inj hu0
  obtain rfl := Option.some.inj hu1
  obtain rfl := Option.some.inj hu2
  obtain rfl := Option.some.inj hu3
  have hst := Try.underlying43
  have hsm := Try.underlying23
  have hit := Try.underlying3
  have hx' : Value.okWide Try.prog w .any base 43 x := by unfold Value.okWide; rw [hst]; exact hx
  have hu' : Value.okWide Try.prog w .any base 23 u := by unfold Value.okWide; rw [hsm]; exact hu
  obtain ⟨TA, tn, tc, rfl⟩ := okWide_slice hst hx'
  obtain ⟨MA, mn, mc, rfl⟩ := okWide_slice hsm hu'
  have hI : ∀ y, Cell.okWide Try.prog w .any base 3 y → ∃ cur : Int, y = .int .i64 cur ∧ -9223372036854775808 ≤ cur ∧ cur ≤ 9223372036854775807 := by
    intro y hy
    unfold Cell.okWide at hy
    rw [hit] at hy
    unfold Cell.ok at hy
    rw [hit] at hy
    cases y <;> simp_all [IntKind.has, IntKind.min, IntKind.max, IntKind.signed, IntKind.bits]
  obtain ⟨f, rfl, b1⟩ := hI y hy
  obtain ⟨wt, rfl, b2⟩ := hI z hz
  obtain ⟨fuel, hf⟩ := h
  obtain ⟨xs, m, _, _, _, hxl, hg⟩ := DataW.trod_struct ht hf
  have hxl' : xs.length = 4 := hxl
  have h3 := hg 0 f0 rfl
  have hx0 : xs[0]? = some (xs[0]'(by omega)) := List.getElem?_eq_getElem (by omega)
  have h4 := hg 3 f3 rfl
  have hx3 : xs[3]? = some (xs[3]'(by omega)) := List.getElem?_eq_getElem (by omega)
  have hc0 : Try.prog.cellsOf 43 = 1 := by kernel_rfl
  have hc3 : Try.prog.cellsOf 23 = 1 := by kernel_rfl
  rw [hx0, o0, e0, hc0] at h3
  rw [hx3, o3, e3, hc3] at h4
  obtain ⟨F, hr⟩ := open_rows (S := 5) (d := (xs[0]'(by omega)).1) (ps := (xs[0]'(by omega)).2) hst (by kernel_rfl) (by omega) (tickFlat enc w) ⟨m, by simpa [Value.cells] using h3⟩ hx'
  obtain ⟨G, hq⟩ := open_rows (S := 4) (d := (xs[3]'(by omega)).1) (ps := (xs[3]'(by omega)).2) hsm (by kernel_rfl) (by omega) (memFlat enc w) ⟨m, by simpa [Value.cells] using h4⟩ hu'
  obtain ⟨ts, ht, hle, hcc⟩ := tick_of_rows hr
  obtain ⟨ms, hm⟩ := mem_of_rows hq
  exact ⟨TA, tn, tc, f, wt, MA, mn, mc, ts, ms, rfl, ht, hle, hcc, hm, b1, b2⟩
end Go.Proofs.Ythmjbfocpdiikaa.Fr
