/-
  A forest: Roots, add, Root, Child.
-/
import Derived.Test.YtdhcmnbajkpjiaaNodeE
import Derived.Test.YtdhcmnbajkpjiaaReg
namespace Go.Proofs.Ytdhcmnbajkpjiaa
open Go.RowKit
open Go.Maps
set_option linter.unusedVariables false
set_option linter.unusedSimpArgs false
attribute [local go_sem] drewN_alloc drewN_setCell
variable {B : Nat} {w : World} {Fb Sb Gb Mb Pb C Nb Lb n : Nat} {v : Value} {g up : List Int} {O cl : List Nat} {fr : Nat} {R : Nat → List Nat}

theorem ChainRows.of_blocks {w w' : World} {C Nb Lb n l : Nat} {R : Nat → List Nat} (h : ChainRows w C Nb Lb n l R) (e : ∀ k, (k = C ∨ k = Nb ∨ k = Lb) → w'.heap[k]? = w.heap[k]?) : ChainRows w' C Nb Lb n l R := by
  obtain ⟨s1, s2, s3⟩ := h.lt1
  have lt : ∀ k, k < w.heap.size → w'.heap[k]? = w.heap[k]? → k < w'.heap.size := fun k hk he => by
    rcases Nat.lt_or_ge k w'.heap.size with h1 | h1
    · exact h1
    · rw [Array.getElem?_eq_none h1, Array.getElem?_eq_getElem hk] at he; cases he
  have c : ∀ k, (k = C ∨ k = Nb ∨ k = Lb) → ∀ j, w'.cell? ⟨k, j, none⟩ = w.cell? ⟨k, j, none⟩ := fun k hk j => World.cell?_of_block (w := w) (e k hk)
  have f : ∀ k, (k = C ∨ k = Nb ∨ k = Lb) → ∀ j, w'.frozen? ⟨k, j, none⟩ = w.frozen? ⟨k, j, none⟩ := fun k hk j => by simp only [World.frozen?]; rw [e k hk]
  obtain ⟨St, h1, h2⟩ := h
  exact ⟨St, ⟨(c _ (.inl rfl) _).trans h1.c0, (c _ (.inl rfl) _).trans h1.c1, fun i hi => (c _ (.inr (.inl rfl)) _).trans (h1.n0 i hi), fun i hi => (c _ (.inr (.inl rfl)) _).trans (h1.n1 i hi), fun i hi => (c _ (.inr (.inl rfl)) _).trans (h1.n2 i hi),
    fun i hi => (c _ (.inr (.inr rfl)) _).trans (h1.l0 i hi), fun i hi => (c _ (.inr (.inr rfl)) _).trans (h1.l1 i hi), fun i hi => (c _ (.inr (.inr rfl)) _).trans (h1.l2 i hi),
    fun j => (f _ (.inr (.inl rfl)) _).trans (h1.fzn j), fun j => (f _ (.inr (.inr rfl)) _).trans (h1.fzl j), lt _ s1 (e _ (.inl rfl)), lt _ s2 (e _ (.inr (.inl rfl))), lt _ s3 (e _ (.inr (.inr rfl))),
    h1.aCN, h1.aCL, h1.aNL, h1.bn, h1.bl⟩, h2⟩
theorem ids_split {Fb Sb Gb Mb Pb C Nb Lb : Nat} (h : [Fb, Sb, Gb, Mb, Pb, C, Nb, Lb].Nodup) : Fb ≠ Sb ∧ Fb ≠ Gb ∧ Fb ≠ Mb ∧ Fb ≠ Pb ∧ Fb ≠ C ∧ Fb ≠ Nb ∧ Fb ≠ Lb ∧ Sb ≠ Gb ∧ Sb ≠ Mb ∧ Sb ≠ Pb ∧ Sb ≠ C ∧ Sb ≠ Nb ∧ Sb ≠ Lb ∧ Gb ≠ Mb ∧ Gb ≠ Pb ∧ Gb ≠ C ∧ Gb ≠ Nb ∧ Gb ≠ Lb ∧ Mb ≠ Pb ∧ Mb ≠ C ∧ Mb ≠ Nb ∧ Mb ≠ Lb ∧ Pb ≠ C ∧ Pb ≠ Nb ∧ Pb ≠ Lb ∧ C ≠ Nb ∧ C ≠ Lb ∧ Nb ≠ Lb := by
  refine ⟨?_, ?_, ?_, ?_, ?_, ?_, ?_, ?_, ?_, ?_, ?_, ?_, ?_, ?_, ?_, ?_, ?_, ?_, ?_, ?_, ?_, ?_, ?_, ?_, ?_, ?_, ?_, ?_⟩ <;> (intro e; subst e; simp at h)
set_option maxHeartbeats 2000000 in
theorem node_Roots (h : NodeAt B w Fb Sb Gb Mb Pb C Nb Lb n v g up O cl fr R) : Calls Try.prog 46 #[.pointer (some ⟨Fb, 0, none⟩)] w (GivesInts w (ints (R n))) := by
  have f1 := h.f1
  have K1 := Lib.hid (node_is h)
  have H := Lib.hid h
  have K2 : Hid (∀ W, Below w.heap.size w W → Calls Try.prog 116 #[.pointer (some ⟨Fb, 0, none⟩)] W fun e w' => e = .returned (.int .i64 (n : Int)) ∧ W = w') := Lib.hid (fun W hW => node_roots (h.below hW))
  have K3 : Hid (∀ W, Below w.heap.size w W → Calls Try.prog 20 #[.pointer (some ⟨C, 0, none⟩), .int .i64 (n : Int)] W (GivesInts W (ints (R n)))) := Lib.hid (fun W hW => by
    have K := chain_List (n : Int) (h.ch.keep hW)
    rwa [PC.rowV_in (by omega)] at K)
  have hS : Hid (∀ W : World, Below w.heap.size w W → (fun W : World => W.cell? ⟨Fb, 1, none⟩ = some (.pointer (some ⟨C, 0, none⟩))) W) := Lib.hid (fun W hW => (hW.cell h.row.lt).trans f1)
  generalize ints (R n) = D at *
  clear h
  go_enter Try.func46, Try.ntmps46
  go_wp2_with fail
  refine K1.out.mono ?_
  rintro e w1 ⟨rfl, rfl⟩
  go_wp2_with fail
  refine wp_region_held_drew (S := (fun W : World => W.cell? ⟨Fb, 1, none⟩ = some (.pointer (some ⟨C, 0, none⟩)))) (by kernel_rfl) ?_ (fun hHeld => ?_)
  focus ((try dsimp only); exact hS.out _ (by repeat (first | exact Below.refl _ _ | assumption | refine bel_drew ?_ | refine bel_drewN ?_ _ | refine bel_trans ?_ (by assumption))))
  refine tk_yes 0 (v := ?_) rfl (by kernel_rfl) (by kernel_rfl) (by kernel_rfl) (fun _ _ _ h => h) (by kernel_rfl) (by assumption) ?_ ?_; rotate_left; (focus (intro w hSw; (try dsimp only at hSw); go_simp; (first | done | (with_reducible rfl)))); (try simp only [Act.put, List.setIfInBounds_toArray, List.set_cons_zero, List.set_cons_succ])
  refine tk_yes 1 (v := ?_) rfl (by kernel_rfl) (by kernel_rfl) (by kernel_rfl) (fun _ _ _ h => h) (by kernel_rfl) (by assumption) ?_ ?_; rotate_left; (focus (intro w hSw; (try dsimp only at hSw); go_simp; (first | done | (with_reducible rfl)))); (try simp only [Act.put, List.setIfInBounds_toArray, List.set_cons_zero, List.set_cons_succ])
  refine tk_yes 2 (v := ?_) rfl (by kernel_rfl) (by kernel_rfl) (by kernel_rfl) (fun _ _ _ h => h) (by kernel_rfl) (by assumption) ?_ ?_; rotate_left; (focus (intro w hSw; (try dsimp only at hSw); go_simp; (first | done | (with_reducible rfl)))); (try simp only [Act.put, List.setIfInBounds_toArray, List.set_cons_zero, List.set_cons_succ])
  refine tk_yes 3 (v := ?_) rfl (by kernel_rfl) (by kernel_rfl) (by kernel_rfl) (fun _ _ _ h => h) (by kernel_rfl) (by assumption) ?_ ?_; rotate_left; (focus (intro w hSw; (try dsimp only at hSw); go_simp; (first | done | (with_reducible rfl)))); (try simp only [Act.put, List.setIfInBounds_toArray, List.set_cons_zero, List.set_cons_succ])
  refine tk_yes 4 (v := ?_) rfl (by kernel_rfl) (by kernel_rfl) (by kernel_rfl) (fun _ _ _ h => h) (by kernel_rfl) (by assumption) ?_ ?_; rotate_left; (focus (intro w hSw; (try dsimp only at hSw); go_simp; (first | done | (with_reducible rfl)))); (try simp only [Act.put, List.setIfInBounds_toArray, List.set_cons_zero, List.set_cons_succ])
  refine tk_call 5 rfl (by kernel_rfl) (by kernel_rfl) (fun KW hKW => ?_); go_simp; go_at_call 116; refine (K2.out _ (by repeat (first | exact Below.refl _ _ | assumption | refine bel_drew ?_ | refine bel_drewN ?_ _ | refine bel_trans ?_ (by assumption)))).mono ?_; rintro e u1 ⟨rfl, rfl⟩; refine hKW.out _ _ ?_ (fun hHeld => ?_); (focus ((try dsimp only); exact hS.out _ (by repeat (first | exact Below.refl _ _ | assumption | refine bel_drew ?_ | refine bel_drewN ?_ _ | refine bel_trans ?_ (by assumption))))); clear hKW KW; (try simp only [Act.put, List.setIfInBounds_toArray, List.set_cons_zero, List.set_cons_succ])
  refine tk_call 6 rfl (by kernel_rfl) (by kernel_rfl) (fun KW hKW => ?_); go_simp; go_at_call 20; refine (K3.out _ (by repeat (first | exact Below.refl _ _ | assumption | refine bel_drew ?_ | refine bel_drewN ?_ _ | refine bel_trans ?_ (by assumption)))).mono ?_; rintro e u2 ⟨A', n', c', rfl, a1, a2⟩; have t2 := bel_trans (bel_drew (Below.refl w.heap.size w)) a2; have HG : Hid (GivesInts w D (.returned (.slice A' n' c')) u2) := Lib.hid ⟨_, _, _, rfl, a1.mono (by simp), t2⟩; clear a1 a2; refine hKW.out _ _ ?_ (fun hHeld => ?_); (focus ((try dsimp only); exact hS.out _ (by repeat (first | exact Below.refl _ _ | assumption | refine bel_drew ?_ | refine bel_drewN ?_ _ | refine bel_trans ?_ (by assumption))))); clear hKW KW; (try simp only [Act.put, List.setIfInBounds_toArray, List.set_cons_zero, List.set_cons_succ])
  refine tk_yes 7 (v := ?_) rfl (by kernel_rfl) (by kernel_rfl) (by kernel_rfl) (fun _ _ _ h => h) (by kernel_rfl) (by assumption) ?_ ?_; rotate_left; (focus (intro w hSw; (try dsimp only at hSw); go_simp; (first | done | (with_reducible rfl)))); (try simp only [Act.put, List.setIfInBounds_toArray, List.set_cons_zero, List.set_cons_succ])
  refine wpAnyH_done (by kernel_rfl) ?_ _
  go_wp2_with fail
  go_ret
  exact HG.out

theorem FI.not_in (hi : FI n up O cl fr R) {p : Nat} (hp : p ∉ O) : PC.ofV (n + 1) R (p : Int) < 0 := by
  have := hi.of (p : Int)
  by_cases h0 : 0 ≤ PC.ofV (n + 1) R (p : Int)
  · exact absurd (in_ints.1 (this.1 h0)) hp
  · omega
def NAdd (B Fb Sb Gb Mb Pb C Nb Lb n : Nat) (v : Value) (g up : List Int) (O : List Nat) (R : Nat → List Nat) (i : Nat) (q : Int) (p : Nat) (cl' : List Nat) (fr' : Nat) (w : World) (e : Ending) (w' : World) : Prop :=
  e = .returned (.tuple #[.int .i64 (p : Int), .int .i64 (g.getD p 0), .bool true]) ∧ Chg (fun k => k = Sb ∨ k = Mb ∨ k = Pb ∨ k = Nb ∨ k = Lb) w w' ∧ ∃ v', NodeAt B w' Fb Sb Gb Mb Pb C Nb Lb n v' g (up.set p q) (p :: O) cl' fr' (PC.updR R i (R i ++ [p])) ∧ v'.ownBlock = v.ownBlock
set_option maxRecDepth 100000 in
set_option maxHeartbeats 4000000 in
theorem node_add {p : Nat} {cl' : List Nat} {fr' : Nat} (i : Nat) (q : Int) (h : NodeAt B w Fb Sb Gb Mb Pb C Nb Lb n v g up O cl fr R) (hi : FI n up O cl fr R) (hil : i < n + 1) (hp : pickP cl fr n = some (p, cl', fr')) :
    Calls Try.prog 114 #[.pointer (some ⟨Fb, 0, none⟩), .int .i64 (i : Int), .int .i64 q] w (NAdd B Fb Sb Gb Mb Pb C Nb Lb n v g up O R i q p cl' fr' w) := by
  have K := Lib.hid (slots_Open h.sl hi.s hp)
  obtain ⟨hi2, hno, hpn, hpf⟩ := hi.s.pick hp
  have f0 := h.f0
  have HN := Lib.hid (hi.not_in hno)
  have H := Lib.hid h
  have hn := h.ne
  obtain ⟨nFbSb, nFbGb, nFbMb, nFbPb, nFbC, nFbNb, nFbLb, nSbGb, nSbMb, nSbPb, nSbC, nSbNb, nSbLb, nGbMb, nGbPb, nGbC, nGbNb, nGbLb, nMbPb, nMbC, nMbNb, nMbLb, nPbC, nPbNb, nPbLb, nCNb, nCLb, nNbLb⟩ := ids_split hn
  clear hn
  clear h hi hp hi2
  go_enter Try.func114, Try.ntmps114
  go_wp2_with fail
  refine K.out.mono ?_
  rintro e w1 ⟨rfl, hc1, v', h1, hv⟩
  have e1 : ∀ k, k < w.heap.size → k ≠ Sb → k ≠ Mb → w1.heap[k]? = w.heap[k]? := fun k hk a b => hc1.block k hk (fun h => by rcases h with h | h; exact a h; exact b h)
  have r1 := H.out.row.of_block (e1 _ H.out.row.lt (by first | assumption | exact Ne.symm (by assumption)) (by first | assumption | exact Ne.symm (by assumption)))
  have p1 := H.out.par.of_block (e1 _ H.out.par.lt (by first | assumption | exact Ne.symm (by assumption)) (by first | assumption | exact Ne.symm (by assumption)))
  obtain ⟨z1, z2, z3⟩ := H.out.ch.lt1
  have q1 : ChainRows w1 C Nb Lb n (n + 1) R := H.out.ch.of_blocks (fun k hk => e1 k (by rcases hk with rfl | rfl | rfl <;> assumption) (by rcases hk with rfl | rfl | rfl <;> first | assumption | exact Ne.symm (by assumption)) (by rcases hk with rfl | rfl | rfl <;> first | assumption | exact Ne.symm (by assumption)))
  have g0 : w1.cell? ⟨Fb, 0, none⟩ = some (.pointer (some ⟨Sb, 0, none⟩)) := by rw [r1.cell]; rfl
  have g1 : w1.cell? ⟨Fb, 1, none⟩ = some (.pointer (some ⟨C, 0, none⟩)) := by rw [r1.cell]; rfl
  have g2 : w1.cell? ⟨Fb, 2, none⟩ = some (.slice (some ⟨Pb, 0, none⟩) n n) := by rw [r1.cell]; rfl
  have hul := H.out.ulen
  have d1 : w1.cell? ⟨Pb, p, none⟩ = some (.int .i64 (up.getD p 0)) := by
    rw [p1.cell]
    simp [List.getD, show p < up.length by omega]
  have fz := p1.frozen p
  obtain ⟨w2, hw2⟩ : ∃ w2, w1.setCell ⟨Pb, p, none⟩ (.int .i64 q) = w2 := ⟨_, rfl⟩
  have e2 : ∀ k, k ≠ Pb → w2.heap[k]? = w1.heap[k]? := fun k hk => by rw [← hw2]; exact Below.heap_setCell _ _ _ _ hk
  have r2 := r1.of_block (e2 Fb (by first | assumption | exact Ne.symm (by assumption)))
  have p2 : RowAt w2 Pb 3 ((up.set p q).map (Value.int .i64)) := by rw [← hw2, List.map_set]; exact p1.set_ p _
  have q2 : ChainRows w2 C Nb Lb n (n + 1) R := q1.of_blocks (fun k hk => e2 k (by rcases hk with rfl | rfl | rfl <;> first | assumption | exact Ne.symm (by assumption)))
  have s2 : SlotsAt B w2 Sb Gb Mb n v' g (p :: O) cl' fr' := h1.of_blocks (fun k hk hh => e2 k (by
    rcases hh with rfl | rfl | rfl | h
    · first | assumption | exact Ne.symm (by assumption)
    · first | assumption | exact Ne.symm (by assumption)
    · first | assumption | exact Ne.symm (by assumption)
    · have := (World.ownsRow.lt h1.own k h).1; have := H.out.lt.2.1; omega))
  have c2 : Chg (fun k => k = Sb ∨ k = Mb ∨ k = Pb ∨ k = Nb ∨ k = Lb) w w2 := by
    rw [← hw2]
    exact (hc1.mono (fun k _ h => by rcases h with h | h; exact .inl h; exact .inr (.inl h))).set (.inr (.inr (.inl rfl))) _
  have hadd : PC.addB n (n + 1) R (i : Int) (p : Int) = true := by
    unfold PC.addB
    exact decide_eq_true ⟨by omega, by omega, by omega, by omega, HN.out⟩
  have KA := chain_Add (i : Int) (p : Int) q2
  have er : PC.addR n (n + 1) R (i : Int) (p : Int) = PC.updR R i (R i ++ [p]) := by
    unfold PC.addR
    rw [hadd]
    simp
  rw [hadd, er] at KA
  have HFIN : Hid (∀ w3, ChainRows w3 C Nb Lb n (n + 1) (PC.updR R i (R i ++ [p])) → Off Nb Lb w2 w3 → NAdd B Fb Sb Gb Mb Pb C Nb Lb n v g up O R i q p cl' fr' w (.returned (.tuple #[.int .i64 (p : Int), .int .i64 (g.getD p 0), .bool true])) w3) := Lib.hid (fun w3 h3 ho => by
    have e3 : ∀ k, k < w2.heap.size → k ≠ Nb → k ≠ Lb → w3.heap[k]? = w2.heap[k]? := fun k hk a b => ho.block k a b hk
    refine ⟨rfl, c2.trans (Chg.of_off ho (.inr (.inr (.inr (.inl rfl)))) (.inr (.inr (.inr (.inr rfl))))), v', ⟨r2.of_block (e3 _ r2.lt (by first | assumption | exact Ne.symm (by assumption)) (by first | assumption | exact Ne.symm (by assumption))), p2.of_block (e3 _ p2.lt (by first | assumption | exact Ne.symm (by assumption)) (by first | assumption | exact Ne.symm (by assumption))), by rw [List.length_set]; exact hul, s2.of_blocks (fun k hk hh => e3 k hk ?_ ?_), h3, H.out.ne, H.out.lt, ?_⟩, hv⟩
    · rcases hh with rfl | rfl | rfl | h
      · first | assumption | exact Ne.symm (by assumption)
      · first | assumption | exact Ne.symm (by assumption)
      · first | assumption | exact Ne.symm (by assumption)
      · have := (World.ownsRow.lt s2.own k h).1; have := H.out.lt; omega
    · rcases hh with rfl | rfl | rfl | h
      · first | assumption | exact Ne.symm (by assumption)
      · first | assumption | exact Ne.symm (by assumption)
      · first | assumption | exact Ne.symm (by assumption)
      · have := (World.ownsRow.lt s2.own k h).1; have := H.out.lt; omega
    · have := H.out.bw; have := c2.size; have := ho.size; omega)
  generalize g.getD p 0 = gp at *
  replace KA := Lib.hid KA
  have HW2 := Lib.hid hw2
  have g1' : w2.cell? ⟨Fb, 1, none⟩ = some (.pointer (some ⟨C, 0, none⟩)) := by rw [r2.cell]; rfl
  have j0 : (0 : Int) ≤ (p : Int) := by omega
  have j1 : (p : Int) < (n : Int) := by omega
  clear hc1 h1 r1 p1 q1 hw2 e2 r2 p2 q2 s2 c2 e1 hadd er
  go_upto_region 5 with (fail)
  refine region_name ?_
  rintro W2 hW2
  obtain rfl : W2 = w2 := hW2.trans HW2.out
  clear hW2
  go_wp2_with fail
  refine KA.out.mono ?_
  rintro e w3 ⟨rfl, h3, ho⟩
  have HF2 := Lib.hid (HFIN.out w3 h3 ho)
  clear h3 ho
  go_wp2_with fail
  exact bodyPost_ret (v := .tuple #[.int .i64 (p : Int), .int .i64 gp, .bool true]) (by simp [results, Try.results114, go_sem]) rfl HF2.out
theorem node_add_no (i q : Int) (h : NodeAt B w Fb Sb Gb Mb Pb C Nb Lb n v g up O cl fr R) (hp : pickP cl fr n = none) :
    Calls Try.prog 114 #[.pointer (some ⟨Fb, 0, none⟩), .int .i64 i, .int .i64 q] w fun e w' => e = .returned (.tuple #[.int .i64 0, .int .i64 0, .bool false]) ∧ Below w.heap.size w w' := by
  have K := Lib.hid (slots_Open_no h.sl hp)
  have f0 := h.f0
  clear h hp
  go_enter Try.func114, Try.ntmps114
  go_wp2_with fail
  refine K.out.mono ?_
  rintro e w1 ⟨rfl, h1⟩
  go_wp2_with fail
  exact bodyPost_ret (v := .tuple #[.int .i64 0, .int .i64 0, .bool false]) (by simp [results, Try.results114, go_sem]) rfl ⟨rfl, h1⟩
end Go.Proofs.Ytdhcmnbajkpjiaa
