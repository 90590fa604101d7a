/- Part 7 of the proof of RegionStale: lemmas, each with its conditions ahead of it. -/
import Derived.Test.YtdhcmnbajkpjiaaPartRegionStale5
import Derived.Test.YtdhcmnbajkpjiaaPartRegionStale6
import Derived.Test.YtdhcmnbajkpjiaaPartRegionStale3
/-
  The reference's forest in memory: Add of a child; what is refused.
-/
namespace Go.Proofs.Ytdhcmnbajkpjiaa
open Go.RowKit
open Go.Maps
set_option linter.unusedVariables false
set_option linter.unusedSimpArgs false
attribute [local go_sem] drewN_alloc drewN_setCell

variable {P : Nat → Prop} {w w' : World} {V : Value} {n : Nat} {g : List Int} {O cl : List Nat} {fr : Nat} {N : List Nat} {up : List Int}
set_option maxRecDepth 100000 in
set_option maxHeartbeats 8000000 in
theorem ref37_Add_kid {p : Nat} {cl' : List Nat} {fr' : Nat} (j : Nat) (hj : j ∈ N) (hp : pickP cl fr n = some (p, cl', fr')) (hi : SlInv n O cl fr) (hn : n ≤ 4096) (hNl : N.length ≤ 4096) (hpN : p ∉ N) (hul : up.length = n) (hP : ∀ b, w.heap.size ≤ b → P b) (h : RefF P w V n g O cl fr N up) :
    Calls Try.prog 42 #[V, .int .i64 (j : Int)] w (GAddF P n g O p cl' fr' N up (j : Int) w) := by
  have hpn := (hi.pick hp).2.2.1
  have hU : Hid (upsOf N up ++ [((j : Int) : Int)] = upsOf (N ++ [p]) (up.set p (j : Int))) := Lib.hid (up_add hpN (by omega)).symm
  have hh : RefF (fun b => P b ∧ b ≠ w.heap.size + 1) w V n g O cl fr N up := h.mono (fun b hb hPb => ⟨hPb, by omega⟩)
  obtain ⟨Ao, co, Ag, cg, Ac, cc, An, cn, Ap, cp, rfl, h1, h2, h3⟩ := hh
  clear h
  have HP := Lib.hid hP
  have H2 := Lib.hid h2
  have H3 := Lib.hid h3
  obtain ⟨kj, hkj⟩ : ∃ k, N.idxOf j = k := ⟨_, rfl⟩
  have hpl : PC.place N (j : Int) = (kj : Int) := by unfold PC.place; rw [if_pos ⟨by omega, by simpa using hj⟩, ← hkj]; simp
  have KA : Hid (∀ W, Below w.heap.size w W → Calls Try.prog 110 #[.agg #[.slice Ao n co, .slice Ag n cg, .slice Ac cl.length cc, .int .i64 (fr : Int), .slice An N.length cn, .slice Ap N.length cp], .int .i64 (j : Int)] W fun e w' => e = .returned (.int .i64 (kj : Int)) ∧ Below W.heap.size W w') := Lib.hid (fun W hW => by
    have := ref37_At (P := fun b => P b ∧ b ≠ w.heap.size + 1) (g := g) (O := O) (up := up) (j : Int) (RefF.keep ⟨Ao, co, Ag, cg, Ac, cc, An, cn, Ap, cp, rfl, h1, h2, h3⟩ hW)
    rwa [hpl] at this)
  have j1 : ((j : Int) != -1) = true := bne_iff_ne.2 (by omega)
  have j2 : decide ((kj : Int) < (0 : Int)) = false := decide_eq_false (by omega)
  have j3 : ¬ (kj : Int) < (0 : Int) := by omega
  have j4 : ¬ (j : Int) = -1 := by omega
  clear hj hkj hpl
  have K2 : Hid (∀ W, Below w.heap.size w W → w.heap.size + 2 ≤ W.heap.size → Calls Try.prog 117 #[.agg #[.slice Ao n co, .slice Ag n cg, .slice Ac cl.length cc, .int .i64 (fr : Int)]] W (GOpen (fun b => P b ∧ b ≠ w.heap.size + 1) n g O p cl' fr' W)) := Lib.hid (fun W hW hz => ref06_OpenOne hp hi hn (fun b hb => ⟨HP.out b (by omega), by omega⟩) (h1.keep hW))
  have HL1 : Hid (([] : List Int).length + N.length ≤ 1048576) := Lib.hid (by simp; omega)
  have HL2 : Hid (([] ++ ints N : List Int).length + [(p : Int)].length ≤ 1048576) := Lib.hid (by simp [ints]; omega)
  have HL4 : Hid (([] ++ upsOf N up : List Int).length + [((j : Int) : Int)].length ≤ 1048576) := Lib.hid (by simp [upsOf]; omega)
  obtain ⟨m, hm⟩ : ∃ m, cl.length = m := ⟨_, rfl⟩
  rw [hm] at KA K2 h1 ⊢
  obtain ⟨gp, hgp⟩ : ∃ gp, g.getD p 0 = gp := ⟨_, rfl⟩
  have HGP := Lib.hid hgp
  clear h1 h2 h3 hp hi hpN hul hP hm hgp
  go_enter Try.func42, Try.ntmps42
  go_upto_region 1 with (fail)
  refine region_name ?_
  rintro W0 hW0
  have r0 : RowAt W0 w.heap.size 58 [.slice Ao n co, .slice Ag n cg, .slice Ac m cc, .int .i64 (fr : Int), .slice An N.length cn, .slice Ap N.length cp] := by
    rw [hW0]; exact (RowAt.new w 58 _).alloc _
  have s0 : RowAt W0 (w.heap.size + 1) 58 [.slice none 0 0, .slice none 0 0, .slice none 0 0, .int .i64 0, .slice none 0 0, .slice none 0 0] := by
    rw [hW0]
    have := RowAt.new (w.alloc (.cells #[.slice Ao n co, .slice Ag n cg, .slice Ac m cc, .int .i64 (fr : Int), .slice An N.length cn, .slice Ap N.length cp] 58)) 58 [.slice none 0 0, .slice none 0 0, .slice none 0 0, .int .i64 0, .slice none 0 0, .slice none 0 0]
    simpa using this
  have b0 : Below w.heap.size w W0 := by rw [hW0]; exact (by repeat (first | exact Below.refl _ _ | assumption | refine bel_drew ?_ | refine bel_drewN ?_ _ | refine bel_alloc ?_ _ | refine bel_set ?_ (by first | (dsimp only; omega) | (simp; done) | (simp; omega)) _ | refine bel_trans ?_ (by assumption)))
  have z0 : w.heap.size + 2 ≤ W0.heap.size := by rw [hW0]; simp
  clear hW0
  have c0 : W0.cell? ⟨w.heap.size, 0, none⟩ = some (.slice Ao n co) := by rw [r0.cell]; rfl
  have c1 : W0.cell? ⟨w.heap.size, 1, none⟩ = some (.slice Ag n cg) := by rw [r0.cell]; rfl
  have c2 : W0.cell? ⟨w.heap.size, 2, none⟩ = some (.slice Ac m cc) := by rw [r0.cell]; rfl
  have c3 : W0.cell? ⟨w.heap.size, 3, none⟩ = some (.int .i64 (fr : Int)) := by rw [r0.cell]; rfl
  have c4 : W0.cell? ⟨w.heap.size, 4, none⟩ = some (.slice An N.length cn) := by rw [r0.cell]; rfl
  have c5 : W0.cell? ⟨w.heap.size, 5, none⟩ = some (.slice Ap N.length cp) := by rw [r0.cell]; rfl
  go_wp2_with fail
  refine (KA.out _ b0).mono ?_
  rintro e w1 ⟨rfl, hb1⟩
  have r1 := r0.keep hb1
  have s1 := s0.keep hb1
  have b1 := bel_trans b0 hb1
  have z1 := Nat.le_trans z0 hb1.size
  clear c0 c1 c2 c3 c4 c5 r0 s0 b0 hb1 z0
  have c0 : w1.cell? ⟨w.heap.size, 0, none⟩ = some (.slice Ao n co) := by rw [r1.cell]; rfl
  have c1 : w1.cell? ⟨w.heap.size, 1, none⟩ = some (.slice Ag n cg) := by rw [r1.cell]; rfl
  have c2 : w1.cell? ⟨w.heap.size, 2, none⟩ = some (.slice Ac m cc) := by rw [r1.cell]; rfl
  have c3 : w1.cell? ⟨w.heap.size, 3, none⟩ = some (.int .i64 (fr : Int)) := by rw [r1.cell]; rfl
  have c4 : w1.cell? ⟨w.heap.size, 4, none⟩ = some (.slice An N.length cn) := by rw [r1.cell]; rfl
  have c5 : w1.cell? ⟨w.heap.size, 5, none⟩ = some (.slice Ap N.length cp) := by rw [r1.cell]; rfl
  go_wp2_with fail
  refine (K2.out _ b1 z1).mono ?_
  rintro e u1 ⟨V', rfl, ⟨Ao', co', Ag', cg', Ac', cc', rfl, h1, h2, h3⟩, hbu⟩
  rw [HGP.out]
  have q1 := Lib.hid h1
  have q2 := Lib.hid h2
  have q3 := Lib.hid h3
  have r2 := r1.keep hbu
  have s2 := s1.keep hbu
  have b2 := bel_trans b1 hbu
  have z2 := Nat.le_trans z1 hbu.size
  obtain ⟨m', hm'⟩ : ∃ m', cl'.length = m' := ⟨_, rfl⟩
  rw [hm'] at q3 ⊢
  have HM' := Lib.hid hm'
  clear c0 c1 c2 c3 c4 c5 r1 s1 b1 hbu h1 h2 h3 hm'
  go_upto_region 6 with (fail)
  refine region_name ?_
  rintro W6 hW6
  have t6 : RowAt W6 u1.heap.size 56 [.slice Ao' n co', .slice Ag' n cg', .slice Ac' m' cc', .int .i64 (fr' : Int)] := by
    rw [hW6]; exact RowAt.new u1 56 _
  have r6 : RowAt W6 w.heap.size 58 [.slice Ao n co, .slice Ag n cg, .slice Ac m cc, .int .i64 (fr : Int), .slice An N.length cn, .slice Ap N.length cp] := by rw [hW6]; exact r2.alloc _
  have s6 : RowAt W6 (w.heap.size + 1) 58 [.slice none 0 0, .slice none 0 0, .slice none 0 0, .int .i64 0, .slice none 0 0, .slice none 0 0] := by rw [hW6]; exact s2.alloc _
  have bu : Below u1.heap.size u1 W6 := by rw [hW6]; exact (by repeat (first | exact Below.refl _ _ | assumption | refine bel_drew ?_ | refine bel_drewN ?_ _ | refine bel_alloc ?_ _ | refine bel_set ?_ (by first | (dsimp only; omega) | (simp; done) | (simp; omega)) _ | refine bel_trans ?_ (by assumption)))
  have b6 : Below w.heap.size w W6 := by rw [hW6]; exact bel_alloc b2 _
  have z6 : u1.heap.size < W6.heap.size := by rw [hW6]; simp
  clear hW6 r2 s2 b2
  have zlt : w.heap.size < W6.heap.size := by omega
  have hS : Hid (∀ W : World, Below W6.heap.size W6 W → (fun W : World => W.cell? ⟨u1.heap.size, 0, none⟩ = some (.slice Ao' n co') ∧ W.cell? ⟨u1.heap.size, 1, none⟩ = some (.slice Ag' n cg') ∧ W.cell? ⟨u1.heap.size, 2, none⟩ = some (.slice Ac' m' cc') ∧ W.cell? ⟨u1.heap.size, 3, none⟩ = some (.int .i64 (fr' : Int)) ∧ W.cell? ⟨w.heap.size, 4, none⟩ = some (.slice An N.length cn) ∧ W.cell? ⟨w.heap.size, 5, none⟩ = some (.slice Ap N.length cp)) W) := Lib.hid (fun W hW => ⟨(hW.cell (p := ⟨u1.heap.size, 0, none⟩) z6).trans ((t6.cell 0).trans rfl), (hW.cell (p := ⟨u1.heap.size, 1, none⟩) z6).trans ((t6.cell 1).trans rfl), (hW.cell (p := ⟨u1.heap.size, 2, none⟩) z6).trans ((t6.cell 2).trans rfl), (hW.cell (p := ⟨u1.heap.size, 3, none⟩) z6).trans ((t6.cell 3).trans rfl), (hW.cell (p := ⟨w.heap.size, 4, none⟩) zlt).trans ((r6.cell 4).trans rfl), (hW.cell (p := ⟨w.heap.size, 5, none⟩) zlt).trans ((r6.cell 5).trans rfl)⟩)
  have HR : Hid (∀ W : World, Below W6.heap.size W6 W → RowAt W (w.heap.size + 1) 58 [.slice none 0 0, .slice none 0 0, .slice none 0 0, .int .i64 0, .slice none 0 0, .slice none 0 0]) := Lib.hid (fun W hW => s6.keep hW)
  have HN1 : Hid (∀ W : World, Below W6.heap.size W6 W → SrcS 1 W An N.length (cellsI (ints N))) := Lib.hid (fun W hW => ((H2.out.keep b6).keep hW).src)
  have HN2 : Hid (∀ W : World, Below W6.heap.size W6 W → SrcS 1 W Ap N.length (cellsI (upsOf N up))) := Lib.hid (fun W hW => ((H3.out.keep b6).keep hW).src)
  have HB6 := Lib.hid b6
  have HNE1 : Hid (u1.heap.size ≠ w.heap.size + 1) := Lib.hid (by omega)
  have HNE2 : Hid (w.heap.size ≠ w.heap.size + 1) := Lib.hid (by omega)
  have HBU := Lib.hid bu
  clear r6 s6 t6 b6 bu
  refine wp_region_held_drew (S := (fun W : World => W.cell? ⟨u1.heap.size, 0, none⟩ = some (.slice Ao' n co') ∧ W.cell? ⟨u1.heap.size, 1, none⟩ = some (.slice Ag' n cg') ∧ W.cell? ⟨u1.heap.size, 2, none⟩ = some (.slice Ac' m' cc') ∧ W.cell? ⟨u1.heap.size, 3, none⟩ = some (.int .i64 (fr' : Int)) ∧ W.cell? ⟨w.heap.size, 4, none⟩ = some (.slice An N.length cn) ∧ W.cell? ⟨w.heap.size, 5, none⟩ = some (.slice Ap N.length cp))) (by kernel_rfl) ?_ (fun hHeld => ?_)
  focus ((try dsimp only); first | exact q | exact hS.out _ (by repeat (first | exact Below.refl _ _ | assumption | refine bel_drew ?_ | refine bel_drewN ?_ _ | refine bel_alloc ?_ _ | refine bel_trans ?_ (by assumption))))
  refine tk_yes 0 (v := ?_) rfl (by kernel_rfl) (by kernel_rfl) (by kernel_rfl) (fun _ _ _ h => h) (by kernel_rfl) (by assumption) ?_ ?_; rotate_left; (focus (intro w hSw; (try dsimp only at hSw); go_simp; (first | done | (with_reducible rfl)))); (try simp only [Act.put, List.setIfInBounds_toArray, List.set_cons_zero, List.set_cons_succ])
  refine tk_yes 2 (v := ?_) rfl (by kernel_rfl) (by kernel_rfl) (by kernel_rfl) (fun _ _ _ h => h) (by kernel_rfl) (by assumption) ?_ ?_; rotate_left; (focus (intro w hSw; (try dsimp only at hSw); go_simp; (first | done | (with_reducible rfl)))); (try simp only [Act.put, List.setIfInBounds_toArray, List.set_cons_zero, List.set_cons_succ])
  refine tk_yes 3 (v := ?_) rfl (by kernel_rfl) (by kernel_rfl) (by kernel_rfl) (fun _ _ _ h => h) (by kernel_rfl) (by assumption) ?_ ?_; rotate_left; (focus (intro w hSw; (try dsimp only at hSw); go_simp; (first | done | (with_reducible rfl)))); (try simp only [Act.put, List.setIfInBounds_toArray, List.set_cons_zero, List.set_cons_succ])
  refine tk_yes 5 (v := ?_) rfl (by kernel_rfl) (by kernel_rfl) (by kernel_rfl) (fun _ _ _ h => h) (by kernel_rfl) (by assumption) ?_ ?_; rotate_left; (focus (intro w hSw; (try dsimp only at hSw); go_simp; (first | done | (with_reducible rfl)))); (try simp only [Act.put, List.setIfInBounds_toArray, List.set_cons_zero, List.set_cons_succ])
  refine tk_yes 9 (v := ?_) rfl (by kernel_rfl) (by kernel_rfl) (by kernel_rfl) (fun _ _ _ h => h) (by kernel_rfl) (by assumption) ?_ ?_; rotate_left; (focus (intro w hSw; (try dsimp only at hSw); go_simp; (first | done | (with_reducible rfl)))); (try simp only [Act.put, List.setIfInBounds_toArray, List.set_cons_zero, List.set_cons_succ])
  refine tk_yes 10 (v := ?_) rfl (by kernel_rfl) (by kernel_rfl) (by kernel_rfl) (fun _ _ _ h => h) (by kernel_rfl) (by assumption) ?_ ?_; rotate_left; (focus (intro w hSw; (try dsimp only at hSw); go_simp; (first | done | (with_reducible rfl)))); (try simp only [Act.put, List.setIfInBounds_toArray, List.set_cons_zero, List.set_cons_succ])
  refine tk_yes 12 (v := ?_) rfl (by kernel_rfl) (by kernel_rfl) (by kernel_rfl) (fun _ _ _ h => h) (by kernel_rfl) (by assumption) ?_ ?_; rotate_left; (focus (intro w hSw; (try dsimp only at hSw); go_simp; (first | done | (with_reducible rfl)))); (try simp only [Act.put, List.setIfInBounds_toArray, List.set_cons_zero, List.set_cons_succ])
  refine tk_yes 16 (v := ?_) rfl (by kernel_rfl) (by kernel_rfl) (by kernel_rfl) (fun _ _ _ h => h) (by kernel_rfl) (by assumption) ?_ ?_; rotate_left; (focus (intro w hSw; (try dsimp only at hSw); go_simp; (first | done | (with_reducible rfl)))); (try simp only [Act.put, List.setIfInBounds_toArray, List.set_cons_zero, List.set_cons_succ])
  refine tk_yes 17 (v := ?_) rfl (by kernel_rfl) (by kernel_rfl) (by kernel_rfl) (fun _ _ _ h => h) (by kernel_rfl) (by assumption) ?_ ?_; rotate_left; (focus (intro w hSw; (try dsimp only at hSw); go_simp; (first | done | (with_reducible rfl)))); (try simp only [Act.put, List.setIfInBounds_toArray, List.set_cons_zero, List.set_cons_succ])
  refine dag_name ?_
  intro OPS Q' a0 hO hQ ha
  have L4_16813 : ∀ (WW : World) (v33 v36 v38 v39 v40 v43 v45 v46 : Value), Below W6.heap.size W6 WW → Own2 W6.heap.size WW [(39, v39, (([] ++ (ints N)) ++ [(p : Int)])), (46, v46, (([] ++ (upsOf N up)) ++ [((j : Int) : Int)]))] → wpAnyH Try.prog .any OPS Q' (fun W : World => W.cell? ⟨u1.heap.size, 0, none⟩ = some (.slice Ao' n co') ∧ W.cell? ⟨u1.heap.size, 1, none⟩ = some (.slice Ag' n cg') ∧ W.cell? ⟨u1.heap.size, 2, none⟩ = some (.slice Ac' m' cc') ∧ W.cell? ⟨u1.heap.size, 3, none⟩ = some (.int .i64 (fr' : Int)) ∧ W.cell? ⟨w.heap.size, 4, none⟩ = some (.slice An N.length cn) ∧ W.cell? ⟨w.heap.size, 5, none⟩ = some (.slice Ap N.length cp)) 5 #[true, true, true, true, true, true, true, true, true, true, true, true, true, true, true, false, true, true, false, false, false, false] ((((((((a0.put (some 33) v33).put (some 36) v36).put (some 38) v38).put (some 39) v39).put (some 40) v40).put (some 43) v43).put (some 45) v45).put (some 46) v46) WW := by
    intro WW v33 v36 v38 v39 v40 v43 v45 v46 hb ho
    subst hO
    subst ha
    subst hQ
    (try simp only [Act.put, List.setIfInBounds_toArray, List.set_cons_zero, List.set_cons_succ])
    have q := hS.out _ hb
    obtain ⟨k39, hk39⟩ : ∃ k, (N ++ [p]).length = k := ⟨_, rfl⟩
    obtain ⟨A39, c39, rfl, x39⟩ := own_vat2 (l' := ints (N ++ [p])) (k := k39) (ho.own (d := 39) (v := v39) (l := (([] ++ ints N) ++ [(p : Int)])) (by simp)) (by simp [ints]) (by rw [ints_len]; exact hk39)
    obtain ⟨A46, c46, rfl, x46⟩ := own_vat2 (l' := upsOf (N ++ [p]) (up.set p (j : Int))) (k := k39) (ho.own (d := 46) (v := v46) (l := (([] ++ upsOf N up) ++ [((j : Int) : Int)])) (by simp)) (by rw [← hU.out]; simp) (by rw [upsOf_len]; exact hk39)
    have s7 := HR.out _ hb
    have e0 := (s7.cell 0).trans rfl
    have e1 := (s7.cell 1).trans rfl
    have e2 := (s7.cell 2).trans rfl
    have e3 := (s7.cell 3).trans rfl
    have e4 := (s7.cell 4).trans rfl
    have e5 := (s7.cell 5).trans rfl
    have f0 := s7.frozen 0
    have f1 := s7.frozen 1
    have f2 := s7.frozen 2
    have f3 := s7.frozen 3
    have f4 := s7.frozen 4
    have f5 := s7.frozen 5
    have hb' := Lib.hid hb
    have X39 := Lib.hid x39
    have X46 := Lib.hid x46
    clear x39 x46 ho s7
    refine tk_yes 15 (v := ?_) rfl (by kernel_rfl) (by kernel_rfl) (by kernel_rfl) (fun _ _ _ h => h) (by kernel_rfl) (by assumption) ?_ ?_; rotate_left; (focus (intro w hSw; (try dsimp only at hSw); go_simp; (first | done | (with_reducible rfl)))); (try simp only [Act.put, List.setIfInBounds_toArray, List.set_cons_zero, List.set_cons_succ])
    refine tk_call 18 rfl (by kernel_rfl) (by kernel_rfl) (fun KW hKW => ?_); go_simp; refine hKW.out _ _ ?_ (fun hHeld => ?_); (focus ((try dsimp only); with_reducible exact ⟨set6_cell q.1 HNE1.out _ _ _ _ _ _, set6_cell q.2.1 HNE1.out _ _ _ _ _ _, set6_cell q.2.2.1 HNE1.out _ _ _ _ _ _, set6_cell q.2.2.2.1 HNE1.out _ _ _ _ _ _, set6_cell q.2.2.2.2.1 HNE2.out _ _ _ _ _ _, set6_cell q.2.2.2.2.2 HNE2.out _ _ _ _ _ _⟩)); clear hKW KW; (try simp only [Act.put, List.setIfInBounds_toArray, List.set_cons_zero, List.set_cons_succ])
    refine tk_yes 19 (v := ?_) rfl (by kernel_rfl) (by kernel_rfl) (by kernel_rfl) (fun _ _ _ h => h) (by kernel_rfl) (by assumption) ?_ ?_; rotate_left; (focus (intro w hSw; (try dsimp only at hSw); go_simp; (first | done | (with_reducible rfl)))); (try simp only [Act.put, List.setIfInBounds_toArray, List.set_cons_zero, List.set_cons_succ])
    refine tk_yes 20 (v := ?_) rfl (by kernel_rfl) (by kernel_rfl) (by kernel_rfl) (fun _ _ _ h => h) (by kernel_rfl) (by assumption) ?_ ?_; rotate_left; (focus (intro w hSw; (try dsimp only at hSw); go_simp; (first | done | (with_reducible rfl)))); (try simp only [Act.put, List.setIfInBounds_toArray, List.set_cons_zero, List.set_cons_succ])
    refine tk_yes 21 (v := ?_) rfl (by kernel_rfl) (by kernel_rfl) (by kernel_rfl) (fun _ _ _ h => h) (by kernel_rfl) (by assumption) ?_ ?_; rotate_left; (focus (intro w hSw; (try dsimp only at hSw); go_simp; (first | done | (with_reducible rfl)))); (try simp only [Act.put, List.setIfInBounds_toArray, List.set_cons_zero, List.set_cons_succ])
    refine wpAnyH_done (by kernel_rfl) ?_ _
    go_wp2_with fail
    refine bodyPost_ret (v := .tuple #[.agg #[.slice Ao' n co', .slice Ag' n cg', .slice Ac' m' cc', .int .i64 (fr' : Int), .slice A39 k39 c39, .slice A46 k39 c46], .int .i64 (p : Int), .int .i64 gp, .bool true]) (by simp [results, Try.results42, go_sem, e0, e1, e2, e3, e4, e5]) rfl ?_
    clear e0 e1 e2 e3 e4 e5 f0 f1 f2 f3 f4 f5 q
    have hW : Below w.heap.size w ((((((WW.setCell ⟨w.heap.size + 1, 0, none⟩ (.slice Ao' n co')).setCell ⟨w.heap.size + 1, 1, none⟩ (.slice Ag' n cg')).setCell ⟨w.heap.size + 1, 2, none⟩ (.slice Ac' m' cc')).setCell ⟨w.heap.size + 1, 3, none⟩ (.int .i64 (fr' : Int))).setCell ⟨w.heap.size + 1, 4, none⟩ (.slice A39 k39 c39)).setCell ⟨w.heap.size + 1, 5, none⟩ (.slice A46 k39 c46)) := set6_below (bel_trans HB6.out hb'.out) (by omega) _ _ _ _ _ _
    have hbl : ∀ k, k ≠ w.heap.size + 1 → ((((((WW.setCell ⟨w.heap.size + 1, 0, none⟩ (.slice Ao' n co')).setCell ⟨w.heap.size + 1, 1, none⟩ (.slice Ag' n cg')).setCell ⟨w.heap.size + 1, 2, none⟩ (.slice Ac' m' cc')).setCell ⟨w.heap.size + 1, 3, none⟩ (.int .i64 (fr' : Int))).setCell ⟨w.heap.size + 1, 4, none⟩ (.slice A39 k39 c39)).setCell ⟨w.heap.size + 1, 5, none⟩ (.slice A46 k39 c46)).heap[k]? = WW.heap[k]? := fun k hk => set6_block _ _ _ _ _ _ _ _ _ hk
    have hsz : WW.heap.size ≤ ((((((WW.setCell ⟨w.heap.size + 1, 0, none⟩ (.slice Ao' n co')).setCell ⟨w.heap.size + 1, 1, none⟩ (.slice Ag' n cg')).setCell ⟨w.heap.size + 1, 2, none⟩ (.slice Ac' m' cc')).setCell ⟨w.heap.size + 1, 3, none⟩ (.int .i64 (fr' : Int))).setCell ⟨w.heap.size + 1, 4, none⟩ (.slice A39 k39 c39)).setCell ⟨w.heap.size + 1, 5, none⟩ (.slice A46 k39 c46)).heap.size := by simp
    generalize ((((((WW.setCell ⟨w.heap.size + 1, 0, none⟩ (.slice Ao' n co')).setCell ⟨w.heap.size + 1, 1, none⟩ (.slice Ag' n cg')).setCell ⟨w.heap.size + 1, 2, none⟩ (.slice Ac' m' cc')).setCell ⟨w.heap.size + 1, 3, none⟩ (.int .i64 (fr' : Int))).setCell ⟨w.heap.size + 1, 4, none⟩ (.slice A39 k39 c39)).setCell ⟨w.heap.size + 1, 5, none⟩ (.slice A46 k39 c46)) = Wf at hW hbl hsz ⊢
    unfold GAddF
    rw [HGP.out]
    have hold : ∀ {A : Option Addr} {k c : Nat} {vs : List Value}, VAt (fun b => P b ∧ b ≠ w.heap.size + 1) u1 A k c vs → VAt P Wf A k c vs := fun hv => (((hv.keep HBU.out).keep hb'.out).blocks hsz (fun b _ hb => hbl b hb.2)).mono (fun b _ hb => hb.1)
    have hnew : ∀ {A : Option Addr} {k c : Nat} {vs : List Value}, VAt (fun b => W6.heap.size ≤ b) WW A k c vs → VAt P Wf A k c vs := fun hv => (hv.blocks hsz (fun b _ hb => hbl b (by omega))).mono (fun b _ hb => HP.out b (by omega))
    subst hk39
    have x3 := hold q3.out
    rw [← HM'.out] at x3 ⊢
    exact ⟨_, rfl, ⟨Ao', co', Ag', cg', Ac', cc', A39, c39, A46, c46, rfl, ⟨Ao', co', Ag', cg', Ac', cc', rfl, hold q1.out, hold q2.out, x3⟩, hnew X39.out, hnew X46.out⟩, hW⟩
  have L3_16813 : ∀ (WW : World) (v33 v36 v38 v39 v40 v43 v45 : Value), Below W6.heap.size W6 WW → Own2 W6.heap.size WW [(39, v39, (([] ++ (ints N)) ++ [(p : Int)])), (43, v43, ([] ++ (upsOf N up))), (45, v45, [((j : Int) : Int)])] → wpAnyH Try.prog .any OPS Q' (fun W : World => W.cell? ⟨u1.heap.size, 0, none⟩ = some (.slice Ao' n co') ∧ W.cell? ⟨u1.heap.size, 1, none⟩ = some (.slice Ag' n cg') ∧ W.cell? ⟨u1.heap.size, 2, none⟩ = some (.slice Ac' m' cc') ∧ W.cell? ⟨u1.heap.size, 3, none⟩ = some (.int .i64 (fr' : Int)) ∧ W.cell? ⟨w.heap.size, 4, none⟩ = some (.slice An N.length cn) ∧ W.cell? ⟨w.heap.size, 5, none⟩ = some (.slice Ap N.length cp)) 6 #[true, true, true, true, true, true, true, true, true, true, true, true, true, true, false, false, true, true, false, false, false, false] (((((((a0.put (some 33) v33).put (some 36) v36).put (some 38) v38).put (some 39) v39).put (some 40) v40).put (some 43) v43).put (some 45) v45) WW := by
    intro WW v33 v36 v38 v39 v40 v43 v45 hb ho
    subst hO
    subst ha
    simp only [Act.put, List.setIfInBounds_toArray, List.set_cons_zero, List.set_cons_succ] at L4_16813
    (try simp only [Act.put, List.setIfInBounds_toArray, List.set_cons_zero, List.set_cons_succ])
    refine wpAnyH_ready (rs := [14]) (by kernel_rfl) (by simp) (ready_cons (i := 14) rfl (by kernel_rfl) (fun KW hKW => ?_) (AllReadyH.nil))
    · obtain ⟨Ax, cx, rfl, ix, -, -⟩ := (ho.own (d := 45) (v := v45) (l := [((j : Int) : Int)]) (by simp)).ints
      refine app_operI2 (.tmp 43) (.tmp 45) rfl W6.heap.size v43 ([] ++ (upsOf N up)) rfl (ho.own (d := 43) (v := v43) (l := ([] ++ (upsOf N up))) (by simp)) Ax ([((j : Int) : Int)] : List Int).length cx [((j : Int) : Int)] rfl ix.srcI HL4.out hb.size ?_
      intro v9 W9 ho9 hb9 hoth hor hsz
      have hb2 := hb.trans hb9
      refine hKW.out _ _ ?_ (fun hHeld => ?_); (focus ((try dsimp only); exact hS.out _ hb2))
      (try simp only [Act.put, List.setIfInBounds_toArray, List.set_cons_zero, List.set_cons_succ])
      exact L4_16813 _ v33 v36 v38 v39 v40 v43 _ v9 hb2 ((Own2.app (d0 := 43) (v0 := v43) (l0 := ([] ++ (upsOf N up))) (d := 46) (L' := [(39, v39, (([] ++ (ints N)) ++ [(p : Int)]))]) ho (by simp) ho9 hoth hor (by simp)).sub (by simp))
  have L3_168 : ∀ (WW : World) (v33 v36 v38 v39 v40 v43 : Value), Below W6.heap.size W6 WW → Own2 W6.heap.size WW [(39, v39, (([] ++ (ints N)) ++ [(p : Int)])), (43, v43, ([] ++ (upsOf N up)))] → wpAnyH Try.prog .any OPS Q' (fun W : World => W.cell? ⟨u1.heap.size, 0, none⟩ = some (.slice Ao' n co') ∧ W.cell? ⟨u1.heap.size, 1, none⟩ = some (.slice Ag' n cg') ∧ W.cell? ⟨u1.heap.size, 2, none⟩ = some (.slice Ac' m' cc') ∧ W.cell? ⟨u1.heap.size, 3, none⟩ = some (.int .i64 (fr' : Int)) ∧ W.cell? ⟨w.heap.size, 4, none⟩ = some (.slice An N.length cn) ∧ W.cell? ⟨w.heap.size, 5, none⟩ = some (.slice Ap N.length cp)) 7 #[true, true, true, true, true, true, true, true, true, true, true, true, true, false, false, false, true, true, false, false, false, false] ((((((a0.put (some 33) v33).put (some 36) v36).put (some 38) v38).put (some 39) v39).put (some 40) v40).put (some 43) v43) WW := by
    intro WW v33 v36 v38 v39 v40 v43 hb ho
    subst hO
    subst ha
    simp only [Act.put, List.setIfInBounds_toArray, List.set_cons_zero, List.set_cons_succ] at L3_16813
    (try simp only [Act.put, List.setIfInBounds_toArray, List.set_cons_zero, List.set_cons_succ])
    refine wpAnyH_ready (rs := [13]) (by kernel_rfl) (by simp) (ready_cons (i := 13) rfl (by kernel_rfl) (fun KW hKW => ?_) (AllReadyH.nil))
    · go_simp; refine hKW.out _ _ ?_ (fun hHeld => ?_); (focus ((try dsimp only); exact hS.out _ (by repeat (first | exact Below.refl _ _ | assumption | refine bel_drew ?_ | refine bel_drewN ?_ _ | refine bel_alloc ?_ _ | refine bel_trans ?_ (by assumption)))))
      (try simp only [Act.put, List.setIfInBounds_toArray, List.set_cons_zero, List.set_cons_succ])
      exact L3_16813 _ v33 v36 v38 v39 v40 v43 (.slice (some ⟨WW.heap.size, 0, none⟩) 1 1) (by repeat (first | exact Below.refl _ _ | assumption | refine bel_drew ?_ | refine bel_drewN ?_ _ | refine bel_alloc ?_ _ | refine bel_trans ?_ (by assumption))) ((Own2.lit (d := 45) ho hb.size (by simp) (own_oneI2 WW ((j : Int) : Int))).sub (by simp))
  have L2_16813 : ∀ (WW : World) (v33 v36 v38 v39 v40 v45 : Value), Below W6.heap.size W6 WW → Own2 W6.heap.size WW [(39, v39, (([] ++ (ints N)) ++ [(p : Int)])), (40, v40, []), (45, v45, [((j : Int) : Int)])] → wpAnyH Try.prog .any OPS Q' (fun W : World => W.cell? ⟨u1.heap.size, 0, none⟩ = some (.slice Ao' n co') ∧ W.cell? ⟨u1.heap.size, 1, none⟩ = some (.slice Ag' n cg') ∧ W.cell? ⟨u1.heap.size, 2, none⟩ = some (.slice Ac' m' cc') ∧ W.cell? ⟨u1.heap.size, 3, none⟩ = some (.int .i64 (fr' : Int)) ∧ W.cell? ⟨w.heap.size, 4, none⟩ = some (.slice An N.length cn) ∧ W.cell? ⟨w.heap.size, 5, none⟩ = some (.slice Ap N.length cp)) 7 #[true, true, true, true, true, true, true, true, true, true, true, false, true, true, false, false, true, true, false, false, false, false] ((((((a0.put (some 33) v33).put (some 36) v36).put (some 38) v38).put (some 39) v39).put (some 40) v40).put (some 45) v45) WW := by
    intro WW v33 v36 v38 v39 v40 v45 hb ho
    subst hO
    subst ha
    simp only [Act.put, List.setIfInBounds_toArray, List.set_cons_zero, List.set_cons_succ] at L3_16813
    (try simp only [Act.put, List.setIfInBounds_toArray, List.set_cons_zero, List.set_cons_succ])
    refine wpAnyH_ready (rs := [11]) (by kernel_rfl) (by simp) (ready_cons (i := 11) rfl (by kernel_rfl) (fun KW hKW => ?_) (AllReadyH.nil))
    · refine app_operI2 (.tmp 40) (.tmp 42) rfl W6.heap.size v40 [] rfl (ho.own (d := 40) (v := v40) (l := []) (by simp)) Ap N.length cp (upsOf N up) rfl (HN2.out _ hb) HL1.out hb.size ?_
      intro v9 W9 ho9 hb9 hoth hor hsz
      have hb2 := hb.trans hb9
      refine hKW.out _ _ ?_ (fun hHeld => ?_); (focus ((try dsimp only); exact hS.out _ hb2))
      (try simp only [Act.put, List.setIfInBounds_toArray, List.set_cons_zero, List.set_cons_succ])
      exact L3_16813 _ v33 v36 v38 v39 v40 v9 v45 hb2 ((Own2.app (d0 := 40) (v0 := v40) (l0 := []) (d := 43) (L' := [(39, v39, (([] ++ (ints N)) ++ [(p : Int)])), (45, v45, [((j : Int) : Int)])]) ho (by simp) ho9 hoth hor (by simp)).sub (by simp))
  have L2_168 : ∀ (WW : World) (v33 v36 v38 v39 v40 : Value), Below W6.heap.size W6 WW → Own2 W6.heap.size WW [(39, v39, (([] ++ (ints N)) ++ [(p : Int)])), (40, v40, [])] → wpAnyH Try.prog .any OPS Q' (fun W : World => W.cell? ⟨u1.heap.size, 0, none⟩ = some (.slice Ao' n co') ∧ W.cell? ⟨u1.heap.size, 1, none⟩ = some (.slice Ag' n cg') ∧ W.cell? ⟨u1.heap.size, 2, none⟩ = some (.slice Ac' m' cc') ∧ W.cell? ⟨u1.heap.size, 3, none⟩ = some (.int .i64 (fr' : Int)) ∧ W.cell? ⟨w.heap.size, 4, none⟩ = some (.slice An N.length cn) ∧ W.cell? ⟨w.heap.size, 5, none⟩ = some (.slice Ap N.length cp)) 8 #[true, true, true, true, true, true, true, true, true, true, true, false, true, false, false, false, true, true, false, false, false, false] (((((a0.put (some 33) v33).put (some 36) v36).put (some 38) v38).put (some 39) v39).put (some 40) v40) WW := by
    intro WW v33 v36 v38 v39 v40 hb ho
    subst hO
    subst ha
    simp only [Act.put, List.setIfInBounds_toArray, List.set_cons_zero, List.set_cons_succ] at L3_168
    simp only [Act.put, List.setIfInBounds_toArray, List.set_cons_zero, List.set_cons_succ] at L2_16813
    (try simp only [Act.put, List.setIfInBounds_toArray, List.set_cons_zero, List.set_cons_succ])
    refine wpAnyH_ready (rs := [11, 13]) (by kernel_rfl) (by simp) (ready_cons (i := 11) rfl (by kernel_rfl) (fun KW hKW => ?_) (ready_cons (i := 13) rfl (by kernel_rfl) (fun KW hKW => ?_) (AllReadyH.nil)))
    · refine app_operI2 (.tmp 40) (.tmp 42) rfl W6.heap.size v40 [] rfl (ho.own (d := 40) (v := v40) (l := []) (by simp)) Ap N.length cp (upsOf N up) rfl (HN2.out _ hb) HL1.out hb.size ?_
      intro v9 W9 ho9 hb9 hoth hor hsz
      have hb2 := hb.trans hb9
      refine hKW.out _ _ ?_ (fun hHeld => ?_); (focus ((try dsimp only); exact hS.out _ hb2))
      (try simp only [Act.put, List.setIfInBounds_toArray, List.set_cons_zero, List.set_cons_succ])
      exact L3_168 _ v33 v36 v38 v39 v40 v9 hb2 ((Own2.app (d0 := 40) (v0 := v40) (l0 := []) (d := 43) (L' := [(39, v39, (([] ++ (ints N)) ++ [(p : Int)]))]) ho (by simp) ho9 hoth hor (by simp)).sub (by simp))
    · go_simp; refine hKW.out _ _ ?_ (fun hHeld => ?_); (focus ((try dsimp only); exact hS.out _ (by repeat (first | exact Below.refl _ _ | assumption | refine bel_drew ?_ | refine bel_drewN ?_ _ | refine bel_alloc ?_ _ | refine bel_trans ?_ (by assumption)))))
      (try simp only [Act.put, List.setIfInBounds_toArray, List.set_cons_zero, List.set_cons_succ])
      exact L2_16813 _ v33 v36 v38 v39 v40 (.slice (some ⟨WW.heap.size, 0, none⟩) 1 1) (by repeat (first | exact Below.refl _ _ | assumption | refine bel_drew ?_ | refine bel_drewN ?_ _ | refine bel_alloc ?_ _ | refine bel_trans ?_ (by assumption))) ((Own2.lit (d := 45) ho hb.size (by simp) (own_oneI2 WW ((j : Int) : Int))).sub (by simp))
  have L2_1613 : ∀ (WW : World) (v33 v36 v38 v39 v45 : Value), Below W6.heap.size W6 WW → Own2 W6.heap.size WW [(39, v39, (([] ++ (ints N)) ++ [(p : Int)])), (45, v45, [((j : Int) : Int)])] → wpAnyH Try.prog .any OPS Q' (fun W : World => W.cell? ⟨u1.heap.size, 0, none⟩ = some (.slice Ao' n co') ∧ W.cell? ⟨u1.heap.size, 1, none⟩ = some (.slice Ag' n cg') ∧ W.cell? ⟨u1.heap.size, 2, none⟩ = some (.slice Ac' m' cc') ∧ W.cell? ⟨u1.heap.size, 3, none⟩ = some (.int .i64 (fr' : Int)) ∧ W.cell? ⟨w.heap.size, 4, none⟩ = some (.slice An N.length cn) ∧ W.cell? ⟨w.heap.size, 5, none⟩ = some (.slice Ap N.length cp)) 8 #[true, true, true, true, true, true, true, true, false, true, true, false, true, true, false, false, true, true, false, false, false, false] (((((a0.put (some 33) v33).put (some 36) v36).put (some 38) v38).put (some 39) v39).put (some 45) v45) WW := by
    intro WW v33 v36 v38 v39 v45 hb ho
    subst hO
    subst ha
    simp only [Act.put, List.setIfInBounds_toArray, List.set_cons_zero, List.set_cons_succ] at L2_16813
    (try simp only [Act.put, List.setIfInBounds_toArray, List.set_cons_zero, List.set_cons_succ])
    refine wpAnyH_ready (rs := [8]) (by kernel_rfl) (by simp) (ready_cons (i := 8) rfl (by kernel_rfl) (fun KW hKW => ?_) (AllReadyH.nil))
    · go_simp; refine hKW.out _ _ ?_ (fun hHeld => ?_); (focus ((try dsimp only); exact hS.out _ (by repeat (first | exact Below.refl _ _ | assumption | refine bel_drew ?_ | refine bel_drewN ?_ _ | refine bel_alloc ?_ _ | refine bel_trans ?_ (by assumption)))))
      (try simp only [Act.put, List.setIfInBounds_toArray, List.set_cons_zero, List.set_cons_succ])
      exact L2_16813 _ v33 v36 v38 v39 (.slice (some ⟨WW.heap.size, 0, none⟩) 0 0) v45 (by repeat (first | exact Below.refl _ _ | assumption | refine bel_drew ?_ | refine bel_drewN ?_ _ | refine bel_alloc ?_ _ | refine bel_trans ?_ (by assumption))) ((Own2.lit (d := 40) ho hb.size (by simp) (own_emptyI WW)).sub (by simp))
  have L2_16 : ∀ (WW : World) (v33 v36 v38 v39 : Value), Below W6.heap.size W6 WW → Own2 W6.heap.size WW [(39, v39, (([] ++ (ints N)) ++ [(p : Int)]))] → wpAnyH Try.prog .any OPS Q' (fun W : World => W.cell? ⟨u1.heap.size, 0, none⟩ = some (.slice Ao' n co') ∧ W.cell? ⟨u1.heap.size, 1, none⟩ = some (.slice Ag' n cg') ∧ W.cell? ⟨u1.heap.size, 2, none⟩ = some (.slice Ac' m' cc') ∧ W.cell? ⟨u1.heap.size, 3, none⟩ = some (.int .i64 (fr' : Int)) ∧ W.cell? ⟨w.heap.size, 4, none⟩ = some (.slice An N.length cn) ∧ W.cell? ⟨w.heap.size, 5, none⟩ = some (.slice Ap N.length cp)) 9 #[true, true, true, true, true, true, true, true, false, true, true, false, true, false, false, false, true, true, false, false, false, false] ((((a0.put (some 33) v33).put (some 36) v36).put (some 38) v38).put (some 39) v39) WW := by
    intro WW v33 v36 v38 v39 hb ho
    subst hO
    subst ha
    simp only [Act.put, List.setIfInBounds_toArray, List.set_cons_zero, List.set_cons_succ] at L2_168
    simp only [Act.put, List.setIfInBounds_toArray, List.set_cons_zero, List.set_cons_succ] at L2_1613
    (try simp only [Act.put, List.setIfInBounds_toArray, List.set_cons_zero, List.set_cons_succ])
    refine wpAnyH_ready (rs := [8, 13]) (by kernel_rfl) (by simp) (ready_cons (i := 8) rfl (by kernel_rfl) (fun KW hKW => ?_) (ready_cons (i := 13) rfl (by kernel_rfl) (fun KW hKW => ?_) (AllReadyH.nil)))
    · go_simp; refine hKW.out _ _ ?_ (fun hHeld => ?_); (focus ((try dsimp only); exact hS.out _ (by repeat (first | exact Below.refl _ _ | assumption | refine bel_drew ?_ | refine bel_drewN ?_ _ | refine bel_alloc ?_ _ | refine bel_trans ?_ (by assumption)))))
      (try simp only [Act.put, List.setIfInBounds_toArray, List.set_cons_zero, List.set_cons_succ])
      exact L2_168 _ v33 v36 v38 v39 (.slice (some ⟨WW.heap.size, 0, none⟩) 0 0) (by repeat (first | exact Below.refl _ _ | assumption | refine bel_drew ?_ | refine bel_drewN ?_ _ | refine bel_alloc ?_ _ | refine bel_trans ?_ (by assumption))) ((Own2.lit (d := 40) ho hb.size (by simp) (own_emptyI WW)).sub (by simp))
    · go_simp; refine hKW.out _ _ ?_ (fun hHeld => ?_); (focus ((try dsimp only); exact hS.out _ (by repeat (first | exact Below.refl _ _ | assumption | refine bel_drew ?_ | refine bel_drewN ?_ _ | refine bel_alloc ?_ _ | refine bel_trans ?_ (by assumption)))))
      (try simp only [Act.put, List.setIfInBounds_toArray, List.set_cons_zero, List.set_cons_succ])
      exact L2_1613 _ v33 v36 v38 v39 (.slice (some ⟨WW.heap.size, 0, none⟩) 1 1) (by repeat (first | exact Below.refl _ _ | assumption | refine bel_drew ?_ | refine bel_drewN ?_ _ | refine bel_alloc ?_ _ | refine bel_trans ?_ (by assumption))) ((Own2.lit (d := 45) ho hb.size (by simp) (own_oneI2 WW ((j : Int) : Int))).sub (by simp))
  have L1_16813 : ∀ (WW : World) (v33 v36 v38 v40 v45 : Value), Below W6.heap.size W6 WW → Own2 W6.heap.size WW [(36, v36, ([] ++ (ints N))), (38, v38, [(p : Int)]), (40, v40, []), (45, v45, [((j : Int) : Int)])] → wpAnyH Try.prog .any OPS Q' (fun W : World => W.cell? ⟨u1.heap.size, 0, none⟩ = some (.slice Ao' n co') ∧ W.cell? ⟨u1.heap.size, 1, none⟩ = some (.slice Ag' n cg') ∧ W.cell? ⟨u1.heap.size, 2, none⟩ = some (.slice Ac' m' cc') ∧ W.cell? ⟨u1.heap.size, 3, none⟩ = some (.int .i64 (fr' : Int)) ∧ W.cell? ⟨w.heap.size, 4, none⟩ = some (.slice An N.length cn) ∧ W.cell? ⟨w.heap.size, 5, none⟩ = some (.slice Ap N.length cp)) 8 #[true, true, true, true, true, true, true, false, true, true, true, false, true, true, false, false, true, true, false, false, false, false] (((((a0.put (some 33) v33).put (some 36) v36).put (some 38) v38).put (some 40) v40).put (some 45) v45) WW := by
    intro WW v33 v36 v38 v40 v45 hb ho
    subst hO
    subst ha
    simp only [Act.put, List.setIfInBounds_toArray, List.set_cons_zero, List.set_cons_succ] at L2_16813
    (try simp only [Act.put, List.setIfInBounds_toArray, List.set_cons_zero, List.set_cons_succ])
    refine wpAnyH_ready (rs := [7]) (by kernel_rfl) (by simp) (ready_cons (i := 7) rfl (by kernel_rfl) (fun KW hKW => ?_) (AllReadyH.nil))
    · obtain ⟨Ax, cx, rfl, ix, -, -⟩ := (ho.own (d := 38) (v := v38) (l := [(p : Int)]) (by simp)).ints
      refine app_operI2 (.tmp 36) (.tmp 38) rfl W6.heap.size v36 ([] ++ (ints N)) rfl (ho.own (d := 36) (v := v36) (l := ([] ++ (ints N))) (by simp)) Ax ([(p : Int)] : List Int).length cx [(p : Int)] rfl ix.srcI HL2.out hb.size ?_
      intro v9 W9 ho9 hb9 hoth hor hsz
      have hb2 := hb.trans hb9
      refine hKW.out _ _ ?_ (fun hHeld => ?_); (focus ((try dsimp only); exact hS.out _ hb2))
      (try simp only [Act.put, List.setIfInBounds_toArray, List.set_cons_zero, List.set_cons_succ])
      exact L2_16813 _ v33 v36 _ v9 v40 v45 hb2 ((Own2.app (d0 := 36) (v0 := v36) (l0 := ([] ++ (ints N))) (d := 39) (L' := [(40, v40, []), (45, v45, [((j : Int) : Int)])]) ho (by simp) ho9 hoth hor (by simp)).sub (by simp))
  have L1_168 : ∀ (WW : World) (v33 v36 v38 v40 : Value), Below W6.heap.size W6 WW → Own2 W6.heap.size WW [(36, v36, ([] ++ (ints N))), (38, v38, [(p : Int)]), (40, v40, [])] → wpAnyH Try.prog .any OPS Q' (fun W : World => W.cell? ⟨u1.heap.size, 0, none⟩ = some (.slice Ao' n co') ∧ W.cell? ⟨u1.heap.size, 1, none⟩ = some (.slice Ag' n cg') ∧ W.cell? ⟨u1.heap.size, 2, none⟩ = some (.slice Ac' m' cc') ∧ W.cell? ⟨u1.heap.size, 3, none⟩ = some (.int .i64 (fr' : Int)) ∧ W.cell? ⟨w.heap.size, 4, none⟩ = some (.slice An N.length cn) ∧ W.cell? ⟨w.heap.size, 5, none⟩ = some (.slice Ap N.length cp)) 9 #[true, true, true, true, true, true, true, false, true, true, true, false, true, false, false, false, true, true, false, false, false, false] ((((a0.put (some 33) v33).put (some 36) v36).put (some 38) v38).put (some 40) v40) WW := by
    intro WW v33 v36 v38 v40 hb ho
    subst hO
    subst ha
    simp only [Act.put, List.setIfInBounds_toArray, List.set_cons_zero, List.set_cons_succ] at L2_168
    simp only [Act.put, List.setIfInBounds_toArray, List.set_cons_zero, List.set_cons_succ] at L1_16813
    (try simp only [Act.put, List.setIfInBounds_toArray, List.set_cons_zero, List.set_cons_succ])
    refine wpAnyH_ready (rs := [7, 13]) (by kernel_rfl) (by simp) (ready_cons (i := 7) rfl (by kernel_rfl) (fun KW hKW => ?_) (ready_cons (i := 13) rfl (by kernel_rfl) (fun KW hKW => ?_) (AllReadyH.nil)))
    · obtain ⟨Ax, cx, rfl, ix, -, -⟩ := (ho.own (d := 38) (v := v38) (l := [(p : Int)]) (by simp)).ints
      refine app_operI2 (.tmp 36) (.tmp 38) rfl W6.heap.size v36 ([] ++ (ints N)) rfl (ho.own (d := 36) (v := v36) (l := ([] ++ (ints N))) (by simp)) Ax ([(p : Int)] : List Int).length cx [(p : Int)] rfl ix.srcI HL2.out hb.size ?_
      intro v9 W9 ho9 hb9 hoth hor hsz
      have hb2 := hb.trans hb9
      refine hKW.out _ _ ?_ (fun hHeld => ?_); (focus ((try dsimp only); exact hS.out _ hb2))
      (try simp only [Act.put, List.setIfInBounds_toArray, List.set_cons_zero, List.set_cons_succ])
      exact L2_168 _ v33 v36 _ v9 v40 hb2 ((Own2.app (d0 := 36) (v0 := v36) (l0 := ([] ++ (ints N))) (d := 39) (L' := [(40, v40, [])]) ho (by simp) ho9 hoth hor (by simp)).sub (by simp))
    · go_simp; refine hKW.out _ _ ?_ (fun hHeld => ?_); (focus ((try dsimp only); exact hS.out _ (by repeat (first | exact Below.refl _ _ | assumption | refine bel_drew ?_ | refine bel_drewN ?_ _ | refine bel_alloc ?_ _ | refine bel_trans ?_ (by assumption)))))
      (try simp only [Act.put, List.setIfInBounds_toArray, List.set_cons_zero, List.set_cons_succ])
      exact L1_16813 _ v33 v36 v38 v40 (.slice (some ⟨WW.heap.size, 0, none⟩) 1 1) (by repeat (first | exact Below.refl _ _ | assumption | refine bel_drew ?_ | refine bel_drewN ?_ _ | refine bel_alloc ?_ _ | refine bel_trans ?_ (by assumption))) ((Own2.lit (d := 45) ho hb.size (by simp) (own_oneI2 WW ((j : Int) : Int))).sub (by simp))
  have L1_1613 : ∀ (WW : World) (v33 v36 v38 v45 : Value), Below W6.heap.size W6 WW → Own2 W6.heap.size WW [(36, v36, ([] ++ (ints N))), (38, v38, [(p : Int)]), (45, v45, [((j : Int) : Int)])] → wpAnyH Try.prog .any OPS Q' (fun W : World => W.cell? ⟨u1.heap.size, 0, none⟩ = some (.slice Ao' n co') ∧ W.cell? ⟨u1.heap.size, 1, none⟩ = some (.slice Ag' n cg') ∧ W.cell? ⟨u1.heap.size, 2, none⟩ = some (.slice Ac' m' cc') ∧ W.cell? ⟨u1.heap.size, 3, none⟩ = some (.int .i64 (fr' : Int)) ∧ W.cell? ⟨w.heap.size, 4, none⟩ = some (.slice An N.length cn) ∧ W.cell? ⟨w.heap.size, 5, none⟩ = some (.slice Ap N.length cp)) 9 #[true, true, true, true, true, true, true, false, false, true, true, false, true, true, false, false, true, true, false, false, false, false] ((((a0.put (some 33) v33).put (some 36) v36).put (some 38) v38).put (some 45) v45) WW := by
    intro WW v33 v36 v38 v45 hb ho
    subst hO
    subst ha
    simp only [Act.put, List.setIfInBounds_toArray, List.set_cons_zero, List.set_cons_succ] at L2_1613
    simp only [Act.put, List.setIfInBounds_toArray, List.set_cons_zero, List.set_cons_succ] at L1_16813
    (try simp only [Act.put, List.setIfInBounds_toArray, List.set_cons_zero, List.set_cons_succ])
    refine wpAnyH_ready (rs := [7, 8]) (by kernel_rfl) (by simp) (ready_cons (i := 7) rfl (by kernel_rfl) (fun KW hKW => ?_) (ready_cons (i := 8) rfl (by kernel_rfl) (fun KW hKW => ?_) (AllReadyH.nil)))
    · obtain ⟨Ax, cx, rfl, ix, -, -⟩ := (ho.own (d := 38) (v := v38) (l := [(p : Int)]) (by simp)).ints
      refine app_operI2 (.tmp 36) (.tmp 38) rfl W6.heap.size v36 ([] ++ (ints N)) rfl (ho.own (d := 36) (v := v36) (l := ([] ++ (ints N))) (by simp)) Ax ([(p : Int)] : List Int).length cx [(p : Int)] rfl ix.srcI HL2.out hb.size ?_
      intro v9 W9 ho9 hb9 hoth hor hsz
      have hb2 := hb.trans hb9
      refine hKW.out _ _ ?_ (fun hHeld => ?_); (focus ((try dsimp only); exact hS.out _ hb2))
      (try simp only [Act.put, List.setIfInBounds_toArray, List.set_cons_zero, List.set_cons_succ])
      exact L2_1613 _ v33 v36 _ v9 v45 hb2 ((Own2.app (d0 := 36) (v0 := v36) (l0 := ([] ++ (ints N))) (d := 39) (L' := [(45, v45, [((j : Int) : Int)])]) ho (by simp) ho9 hoth hor (by simp)).sub (by simp))
    · go_simp; refine hKW.out _ _ ?_ (fun hHeld => ?_); (focus ((try dsimp only); exact hS.out _ (by repeat (first | exact Below.refl _ _ | assumption | refine bel_drew ?_ | refine bel_drewN ?_ _ | refine bel_alloc ?_ _ | refine bel_trans ?_ (by assumption)))))
      (try simp only [Act.put, List.setIfInBounds_toArray, List.set_cons_zero, List.set_cons_succ])
      exact L1_16813 _ v33 v36 v38 (.slice (some ⟨WW.heap.size, 0, none⟩) 0 0) v45 (by repeat (first | exact Below.refl _ _ | assumption | refine bel_drew ?_ | refine bel_drewN ?_ _ | refine bel_alloc ?_ _ | refine bel_trans ?_ (by assumption))) ((Own2.lit (d := 40) ho hb.size (by simp) (own_emptyI WW)).sub (by simp))
  have L1_16 : ∀ (WW : World) (v33 v36 v38 : Value), Below W6.heap.size W6 WW → Own2 W6.heap.size WW [(36, v36, ([] ++ (ints N))), (38, v38, [(p : Int)])] → wpAnyH Try.prog .any OPS Q' (fun W : World => W.cell? ⟨u1.heap.size, 0, none⟩ = some (.slice Ao' n co') ∧ W.cell? ⟨u1.heap.size, 1, none⟩ = some (.slice Ag' n cg') ∧ W.cell? ⟨u1.heap.size, 2, none⟩ = some (.slice Ac' m' cc') ∧ W.cell? ⟨u1.heap.size, 3, none⟩ = some (.int .i64 (fr' : Int)) ∧ W.cell? ⟨w.heap.size, 4, none⟩ = some (.slice An N.length cn) ∧ W.cell? ⟨w.heap.size, 5, none⟩ = some (.slice Ap N.length cp)) 10 #[true, true, true, true, true, true, true, false, false, true, true, false, true, false, false, false, true, true, false, false, false, false] (((a0.put (some 33) v33).put (some 36) v36).put (some 38) v38) WW := by
    intro WW v33 v36 v38 hb ho
    subst hO
    subst ha
    simp only [Act.put, List.setIfInBounds_toArray, List.set_cons_zero, List.set_cons_succ] at L2_16
    simp only [Act.put, List.setIfInBounds_toArray, List.set_cons_zero, List.set_cons_succ] at L1_168
    simp only [Act.put, List.setIfInBounds_toArray, List.set_cons_zero, List.set_cons_succ] at L1_1613
    (try simp only [Act.put, List.setIfInBounds_toArray, List.set_cons_zero, List.set_cons_succ])
    refine wpAnyH_ready (rs := [7, 8, 13]) (by kernel_rfl) (by simp) (ready_cons (i := 7) rfl (by kernel_rfl) (fun KW hKW => ?_) (ready_cons (i := 8) rfl (by kernel_rfl) (fun KW hKW => ?_) (ready_cons (i := 13) rfl (by kernel_rfl) (fun KW hKW => ?_) (AllReadyH.nil))))
    · obtain ⟨Ax, cx, rfl, ix, -, -⟩ := (ho.own (d := 38) (v := v38) (l := [(p : Int)]) (by simp)).ints
      refine app_operI2 (.tmp 36) (.tmp 38) rfl W6.heap.size v36 ([] ++ (ints N)) rfl (ho.own (d := 36) (v := v36) (l := ([] ++ (ints N))) (by simp)) Ax ([(p : Int)] : List Int).length cx [(p : Int)] rfl ix.srcI HL2.out hb.size ?_
      intro v9 W9 ho9 hb9 hoth hor hsz
      have hb2 := hb.trans hb9
      refine hKW.out _ _ ?_ (fun hHeld => ?_); (focus ((try dsimp only); exact hS.out _ hb2))
      (try simp only [Act.put, List.setIfInBounds_toArray, List.set_cons_zero, List.set_cons_succ])
      exact L2_16 _ v33 v36 _ v9 hb2 ((Own2.app (d0 := 36) (v0 := v36) (l0 := ([] ++ (ints N))) (d := 39) (L' := []) ho (by simp) ho9 hoth hor (by simp)).sub (by simp))
    · go_simp; refine hKW.out _ _ ?_ (fun hHeld => ?_); (focus ((try dsimp only); exact hS.out _ (by repeat (first | exact Below.refl _ _ | assumption | refine bel_drew ?_ | refine bel_drewN ?_ _ | refine bel_alloc ?_ _ | refine bel_trans ?_ (by assumption)))))
      (try simp only [Act.put, List.setIfInBounds_toArray, List.set_cons_zero, List.set_cons_succ])
      exact L1_168 _ v33 v36 v38 (.slice (some ⟨WW.heap.size, 0, none⟩) 0 0) (by repeat (first | exact Below.refl _ _ | assumption | refine bel_drew ?_ | refine bel_drewN ?_ _ | refine bel_alloc ?_ _ | refine bel_trans ?_ (by assumption))) ((Own2.lit (d := 40) ho hb.size (by simp) (own_emptyI WW)).sub (by simp))
    · go_simp; refine hKW.out _ _ ?_ (fun hHeld => ?_); (focus ((try dsimp only); exact hS.out _ (by repeat (first | exact Below.refl _ _ | assumption | refine bel_drew ?_ | refine bel_drewN ?_ _ | refine bel_alloc ?_ _ | refine bel_trans ?_ (by assumption)))))
      (try simp only [Act.put, List.setIfInBounds_toArray, List.set_cons_zero, List.set_cons_succ])
      exact L1_1613 _ v33 v36 v38 (.slice (some ⟨WW.heap.size, 0, none⟩) 1 1) (by repeat (first | exact Below.refl _ _ | assumption | refine bel_drew ?_ | refine bel_drewN ?_ _ | refine bel_alloc ?_ _ | refine bel_trans ?_ (by assumption))) ((Own2.lit (d := 45) ho hb.size (by simp) (own_oneI2 WW ((j : Int) : Int))).sub (by simp))
  have L1_1813 : ∀ (WW : World) (v33 v36 v40 v45 : Value), Below W6.heap.size W6 WW → Own2 W6.heap.size WW [(36, v36, ([] ++ (ints N))), (40, v40, []), (45, v45, [((j : Int) : Int)])] → wpAnyH Try.prog .any OPS Q' (fun W : World => W.cell? ⟨u1.heap.size, 0, none⟩ = some (.slice Ao' n co') ∧ W.cell? ⟨u1.heap.size, 1, none⟩ = some (.slice Ag' n cg') ∧ W.cell? ⟨u1.heap.size, 2, none⟩ = some (.slice Ac' m' cc') ∧ W.cell? ⟨u1.heap.size, 3, none⟩ = some (.int .i64 (fr' : Int)) ∧ W.cell? ⟨w.heap.size, 4, none⟩ = some (.slice An N.length cn) ∧ W.cell? ⟨w.heap.size, 5, none⟩ = some (.slice Ap N.length cp)) 9 #[true, true, true, true, true, true, false, false, true, true, true, false, true, true, false, false, true, true, false, false, false, false] ((((a0.put (some 33) v33).put (some 36) v36).put (some 40) v40).put (some 45) v45) WW := by
    intro WW v33 v36 v40 v45 hb ho
    subst hO
    subst ha
    simp only [Act.put, List.setIfInBounds_toArray, List.set_cons_zero, List.set_cons_succ] at L1_16813
    (try simp only [Act.put, List.setIfInBounds_toArray, List.set_cons_zero, List.set_cons_succ])
    refine wpAnyH_ready (rs := [6]) (by kernel_rfl) (by simp) (ready_cons (i := 6) rfl (by kernel_rfl) (fun KW hKW => ?_) (AllReadyH.nil))
    · go_simp; refine hKW.out _ _ ?_ (fun hHeld => ?_); (focus ((try dsimp only); exact hS.out _ (by repeat (first | exact Below.refl _ _ | assumption | refine bel_drew ?_ | refine bel_drewN ?_ _ | refine bel_alloc ?_ _ | refine bel_trans ?_ (by assumption)))))
      (try simp only [Act.put, List.setIfInBounds_toArray, List.set_cons_zero, List.set_cons_succ])
      exact L1_16813 _ v33 v36 (.slice (some ⟨WW.heap.size, 0, none⟩) 1 1) v40 v45 (by repeat (first | exact Below.refl _ _ | assumption | refine bel_drew ?_ | refine bel_drewN ?_ _ | refine bel_alloc ?_ _ | refine bel_trans ?_ (by assumption))) ((Own2.lit (d := 38) ho hb.size (by simp) (own_oneI2 WW (p : Int))).sub (by simp))
  have L1_18 : ∀ (WW : World) (v33 v36 v40 : Value), Below W6.heap.size W6 WW → Own2 W6.heap.size WW [(36, v36, ([] ++ (ints N))), (40, v40, [])] → wpAnyH Try.prog .any OPS Q' (fun W : World => W.cell? ⟨u1.heap.size, 0, none⟩ = some (.slice Ao' n co') ∧ W.cell? ⟨u1.heap.size, 1, none⟩ = some (.slice Ag' n cg') ∧ W.cell? ⟨u1.heap.size, 2, none⟩ = some (.slice Ac' m' cc') ∧ W.cell? ⟨u1.heap.size, 3, none⟩ = some (.int .i64 (fr' : Int)) ∧ W.cell? ⟨w.heap.size, 4, none⟩ = some (.slice An N.length cn) ∧ W.cell? ⟨w.heap.size, 5, none⟩ = some (.slice Ap N.length cp)) 10 #[true, true, true, true, true, true, false, false, true, true, true, false, true, false, false, false, true, true, false, false, false, false] (((a0.put (some 33) v33).put (some 36) v36).put (some 40) v40) WW := by
    intro WW v33 v36 v40 hb ho
    subst hO
    subst ha
    simp only [Act.put, List.setIfInBounds_toArray, List.set_cons_zero, List.set_cons_succ] at L1_168
    simp only [Act.put, List.setIfInBounds_toArray, List.set_cons_zero, List.set_cons_succ] at L1_1813
    (try simp only [Act.put, List.setIfInBounds_toArray, List.set_cons_zero, List.set_cons_succ])
    refine wpAnyH_ready (rs := [6, 13]) (by kernel_rfl) (by simp) (ready_cons (i := 6) rfl (by kernel_rfl) (fun KW hKW => ?_) (ready_cons (i := 13) rfl (by kernel_rfl) (fun KW hKW => ?_) (AllReadyH.nil)))
    · go_simp; refine hKW.out _ _ ?_ (fun hHeld => ?_); (focus ((try dsimp only); exact hS.out _ (by repeat (first | exact Below.refl _ _ | assumption | refine bel_drew ?_ | refine bel_drewN ?_ _ | refine bel_alloc ?_ _ | refine bel_trans ?_ (by assumption)))))
      (try simp only [Act.put, List.setIfInBounds_toArray, List.set_cons_zero, List.set_cons_succ])
      exact L1_168 _ v33 v36 (.slice (some ⟨WW.heap.size, 0, none⟩) 1 1) v40 (by repeat (first | exact Below.refl _ _ | assumption | refine bel_drew ?_ | refine bel_drewN ?_ _ | refine bel_alloc ?_ _ | refine bel_trans ?_ (by assumption))) ((Own2.lit (d := 38) ho hb.size (by simp) (own_oneI2 WW (p : Int))).sub (by simp))
    · go_simp; refine hKW.out _ _ ?_ (fun hHeld => ?_); (focus ((try dsimp only); exact hS.out _ (by repeat (first | exact Below.refl _ _ | assumption | refine bel_drew ?_ | refine bel_drewN ?_ _ | refine bel_alloc ?_ _ | refine bel_trans ?_ (by assumption)))))
      (try simp only [Act.put, List.setIfInBounds_toArray, List.set_cons_zero, List.set_cons_succ])
      exact L1_1813 _ v33 v36 v40 (.slice (some ⟨WW.heap.size, 0, none⟩) 1 1) (by repeat (first | exact Below.refl _ _ | assumption | refine bel_drew ?_ | refine bel_drewN ?_ _ | refine bel_alloc ?_ _ | refine bel_trans ?_ (by assumption))) ((Own2.lit (d := 45) ho hb.size (by simp) (own_oneI2 WW ((j : Int) : Int))).sub (by simp))
  have L1_113 : ∀ (WW : World) (v33 v36 v45 : Value), Below W6.heap.size W6 WW → Own2 W6.heap.size WW [(36, v36, ([] ++ (ints N))), (45, v45, [((j : Int) : Int)])] → wpAnyH Try.prog .any OPS Q' (fun W : World => W.cell? ⟨u1.heap.size, 0, none⟩ = some (.slice Ao' n co') ∧ W.cell? ⟨u1.heap.size, 1, none⟩ = some (.slice Ag' n cg') ∧ W.cell? ⟨u1.heap.size, 2, none⟩ = some (.slice Ac' m' cc') ∧ W.cell? ⟨u1.heap.size, 3, none⟩ = some (.int .i64 (fr' : Int)) ∧ W.cell? ⟨w.heap.size, 4, none⟩ = some (.slice An N.length cn) ∧ W.cell? ⟨w.heap.size, 5, none⟩ = some (.slice Ap N.length cp)) 10 #[true, true, true, true, true, true, false, false, false, true, true, false, true, true, false, false, true, true, false, false, false, false] (((a0.put (some 33) v33).put (some 36) v36).put (some 45) v45) WW := by
    intro WW v33 v36 v45 hb ho
    subst hO
    subst ha
    simp only [Act.put, List.setIfInBounds_toArray, List.set_cons_zero, List.set_cons_succ] at L1_1613
    simp only [Act.put, List.setIfInBounds_toArray, List.set_cons_zero, List.set_cons_succ] at L1_1813
    (try simp only [Act.put, List.setIfInBounds_toArray, List.set_cons_zero, List.set_cons_succ])
    refine wpAnyH_ready (rs := [6, 8]) (by kernel_rfl) (by simp) (ready_cons (i := 6) rfl (by kernel_rfl) (fun KW hKW => ?_) (ready_cons (i := 8) rfl (by kernel_rfl) (fun KW hKW => ?_) (AllReadyH.nil)))
    · go_simp; refine hKW.out _ _ ?_ (fun hHeld => ?_); (focus ((try dsimp only); exact hS.out _ (by repeat (first | exact Below.refl _ _ | assumption | refine bel_drew ?_ | refine bel_drewN ?_ _ | refine bel_alloc ?_ _ | refine bel_trans ?_ (by assumption)))))
      (try simp only [Act.put, List.setIfInBounds_toArray, List.set_cons_zero, List.set_cons_succ])
      exact L1_1613 _ v33 v36 (.slice (some ⟨WW.heap.size, 0, none⟩) 1 1) v45 (by repeat (first | exact Below.refl _ _ | assumption | refine bel_drew ?_ | refine bel_drewN ?_ _ | refine bel_alloc ?_ _ | refine bel_trans ?_ (by assumption))) ((Own2.lit (d := 38) ho hb.size (by simp) (own_oneI2 WW (p : Int))).sub (by simp))
    · go_simp; refine hKW.out _ _ ?_ (fun hHeld => ?_); (focus ((try dsimp only); exact hS.out _ (by repeat (first | exact Below.refl _ _ | assumption | refine bel_drew ?_ | refine bel_drewN ?_ _ | refine bel_alloc ?_ _ | refine bel_trans ?_ (by assumption)))))
      (try simp only [Act.put, List.setIfInBounds_toArray, List.set_cons_zero, List.set_cons_succ])
      exact L1_1813 _ v33 v36 (.slice (some ⟨WW.heap.size, 0, none⟩) 0 0) v45 (by repeat (first | exact Below.refl _ _ | assumption | refine bel_drew ?_ | refine bel_drewN ?_ _ | refine bel_alloc ?_ _ | refine bel_trans ?_ (by assumption))) ((Own2.lit (d := 40) ho hb.size (by simp) (own_emptyI WW)).sub (by simp))
  have L1_1 : ∀ (WW : World) (v33 v36 : Value), Below W6.heap.size W6 WW → Own2 W6.heap.size WW [(36, v36, ([] ++ (ints N)))] → wpAnyH Try.prog .any OPS Q' (fun W : World => W.cell? ⟨u1.heap.size, 0, none⟩ = some (.slice Ao' n co') ∧ W.cell? ⟨u1.heap.size, 1, none⟩ = some (.slice Ag' n cg') ∧ W.cell? ⟨u1.heap.size, 2, none⟩ = some (.slice Ac' m' cc') ∧ W.cell? ⟨u1.heap.size, 3, none⟩ = some (.int .i64 (fr' : Int)) ∧ W.cell? ⟨w.heap.size, 4, none⟩ = some (.slice An N.length cn) ∧ W.cell? ⟨w.heap.size, 5, none⟩ = some (.slice Ap N.length cp)) 11 #[true, true, true, true, true, true, false, false, false, true, true, false, true, false, false, false, true, true, false, false, false, false] ((a0.put (some 33) v33).put (some 36) v36) WW := by
    intro WW v33 v36 hb ho
    subst hO
    subst ha
    simp only [Act.put, List.setIfInBounds_toArray, List.set_cons_zero, List.set_cons_succ] at L1_16
    simp only [Act.put, List.setIfInBounds_toArray, List.set_cons_zero, List.set_cons_succ] at L1_18
    simp only [Act.put, List.setIfInBounds_toArray, List.set_cons_zero, List.set_cons_succ] at L1_113
    (try simp only [Act.put, List.setIfInBounds_toArray, List.set_cons_zero, List.set_cons_succ])
    refine wpAnyH_ready (rs := [6, 8, 13]) (by kernel_rfl) (by simp) (ready_cons (i := 6) rfl (by kernel_rfl) (fun KW hKW => ?_) (ready_cons (i := 8) rfl (by kernel_rfl) (fun KW hKW => ?_) (ready_cons (i := 13) rfl (by kernel_rfl) (fun KW hKW => ?_) (AllReadyH.nil))))
    · go_simp; refine hKW.out _ _ ?_ (fun hHeld => ?_); (focus ((try dsimp only); exact hS.out _ (by repeat (first | exact Below.refl _ _ | assumption | refine bel_drew ?_ | refine bel_drewN ?_ _ | refine bel_alloc ?_ _ | refine bel_trans ?_ (by assumption)))))
      (try simp only [Act.put, List.setIfInBounds_toArray, List.set_cons_zero, List.set_cons_succ])
      exact L1_16 _ v33 v36 (.slice (some ⟨WW.heap.size, 0, none⟩) 1 1) (by repeat (first | exact Below.refl _ _ | assumption | refine bel_drew ?_ | refine bel_drewN ?_ _ | refine bel_alloc ?_ _ | refine bel_trans ?_ (by assumption))) ((Own2.lit (d := 38) ho hb.size (by simp) (own_oneI2 WW (p : Int))).sub (by simp))
    · go_simp; refine hKW.out _ _ ?_ (fun hHeld => ?_); (focus ((try dsimp only); exact hS.out _ (by repeat (first | exact Below.refl _ _ | assumption | refine bel_drew ?_ | refine bel_drewN ?_ _ | refine bel_alloc ?_ _ | refine bel_trans ?_ (by assumption)))))
      (try simp only [Act.put, List.setIfInBounds_toArray, List.set_cons_zero, List.set_cons_succ])
      exact L1_18 _ v33 v36 (.slice (some ⟨WW.heap.size, 0, none⟩) 0 0) (by repeat (first | exact Below.refl _ _ | assumption | refine bel_drew ?_ | refine bel_drewN ?_ _ | refine bel_alloc ?_ _ | refine bel_trans ?_ (by assumption))) ((Own2.lit (d := 40) ho hb.size (by simp) (own_emptyI WW)).sub (by simp))
    · go_simp; refine hKW.out _ _ ?_ (fun hHeld => ?_); (focus ((try dsimp only); exact hS.out _ (by repeat (first | exact Below.refl _ _ | assumption | refine bel_drew ?_ | refine bel_drewN ?_ _ | refine bel_alloc ?_ _ | refine bel_trans ?_ (by assumption)))))
      (try simp only [Act.put, List.setIfInBounds_toArray, List.set_cons_zero, List.set_cons_succ])
      exact L1_113 _ v33 v36 (.slice (some ⟨WW.heap.size, 0, none⟩) 1 1) (by repeat (first | exact Below.refl _ _ | assumption | refine bel_drew ?_ | refine bel_drewN ?_ _ | refine bel_alloc ?_ _ | refine bel_trans ?_ (by assumption))) ((Own2.lit (d := 45) ho hb.size (by simp) (own_oneI2 WW ((j : Int) : Int))).sub (by simp))
  have L0_16813 : ∀ (WW : World) (v33 v38 v40 v45 : Value), Below W6.heap.size W6 WW → Own2 W6.heap.size WW [(33, v33, []), (38, v38, [(p : Int)]), (40, v40, []), (45, v45, [((j : Int) : Int)])] → wpAnyH Try.prog .any OPS Q' (fun W : World => W.cell? ⟨u1.heap.size, 0, none⟩ = some (.slice Ao' n co') ∧ W.cell? ⟨u1.heap.size, 1, none⟩ = some (.slice Ag' n cg') ∧ W.cell? ⟨u1.heap.size, 2, none⟩ = some (.slice Ac' m' cc') ∧ W.cell? ⟨u1.heap.size, 3, none⟩ = some (.int .i64 (fr' : Int)) ∧ W.cell? ⟨w.heap.size, 4, none⟩ = some (.slice An N.length cn) ∧ W.cell? ⟨w.heap.size, 5, none⟩ = some (.slice Ap N.length cp)) 9 #[true, true, true, true, false, true, true, false, true, true, true, false, true, true, false, false, true, true, false, false, false, false] ((((a0.put (some 33) v33).put (some 38) v38).put (some 40) v40).put (some 45) v45) WW := by
    intro WW v33 v38 v40 v45 hb ho
    subst hO
    subst ha
    simp only [Act.put, List.setIfInBounds_toArray, List.set_cons_zero, List.set_cons_succ] at L1_16813
    (try simp only [Act.put, List.setIfInBounds_toArray, List.set_cons_zero, List.set_cons_succ])
    refine wpAnyH_ready (rs := [4]) (by kernel_rfl) (by simp) (ready_cons (i := 4) rfl (by kernel_rfl) (fun KW hKW => ?_) (AllReadyH.nil))
    · refine app_operI2 (.tmp 33) (.tmp 35) rfl W6.heap.size v33 [] rfl (ho.own (d := 33) (v := v33) (l := []) (by simp)) An N.length cn (ints N) rfl (HN1.out _ hb) HL1.out hb.size ?_
      intro v9 W9 ho9 hb9 hoth hor hsz
      have hb2 := hb.trans hb9
      refine hKW.out _ _ ?_ (fun hHeld => ?_); (focus ((try dsimp only); exact hS.out _ hb2))
      (try simp only [Act.put, List.setIfInBounds_toArray, List.set_cons_zero, List.set_cons_succ])
      exact L1_16813 _ v33 v9 v38 v40 v45 hb2 ((Own2.app (d0 := 33) (v0 := v33) (l0 := []) (d := 36) (L' := [(38, v38, [(p : Int)]), (40, v40, []), (45, v45, [((j : Int) : Int)])]) ho (by simp) ho9 hoth hor (by simp)).sub (by simp))
  have L0_168 : ∀ (WW : World) (v33 v38 v40 : Value), Below W6.heap.size W6 WW → Own2 W6.heap.size WW [(33, v33, []), (38, v38, [(p : Int)]), (40, v40, [])] → wpAnyH Try.prog .any OPS Q' (fun W : World => W.cell? ⟨u1.heap.size, 0, none⟩ = some (.slice Ao' n co') ∧ W.cell? ⟨u1.heap.size, 1, none⟩ = some (.slice Ag' n cg') ∧ W.cell? ⟨u1.heap.size, 2, none⟩ = some (.slice Ac' m' cc') ∧ W.cell? ⟨u1.heap.size, 3, none⟩ = some (.int .i64 (fr' : Int)) ∧ W.cell? ⟨w.heap.size, 4, none⟩ = some (.slice An N.length cn) ∧ W.cell? ⟨w.heap.size, 5, none⟩ = some (.slice Ap N.length cp)) 10 #[true, true, true, true, false, true, true, false, true, true, true, false, true, false, false, false, true, true, false, false, false, false] (((a0.put (some 33) v33).put (some 38) v38).put (some 40) v40) WW := by
    intro WW v33 v38 v40 hb ho
    subst hO
    subst ha
    simp only [Act.put, List.setIfInBounds_toArray, List.set_cons_zero, List.set_cons_succ] at L1_168
    simp only [Act.put, List.setIfInBounds_toArray, List.set_cons_zero, List.set_cons_succ] at L0_16813
    (try simp only [Act.put, List.setIfInBounds_toArray, List.set_cons_zero, List.set_cons_succ])
    refine wpAnyH_ready (rs := [4, 13]) (by kernel_rfl) (by simp) (ready_cons (i := 4) rfl (by kernel_rfl) (fun KW hKW => ?_) (ready_cons (i := 13) rfl (by kernel_rfl) (fun KW hKW => ?_) (AllReadyH.nil)))
    · refine app_operI2 (.tmp 33) (.tmp 35) rfl W6.heap.size v33 [] rfl (ho.own (d := 33) (v := v33) (l := []) (by simp)) An N.length cn (ints N) rfl (HN1.out _ hb) HL1.out hb.size ?_
      intro v9 W9 ho9 hb9 hoth hor hsz
      have hb2 := hb.trans hb9
      refine hKW.out _ _ ?_ (fun hHeld => ?_); (focus ((try dsimp only); exact hS.out _ hb2))
      (try simp only [Act.put, List.setIfInBounds_toArray, List.set_cons_zero, List.set_cons_succ])
      exact L1_168 _ v33 v9 v38 v40 hb2 ((Own2.app (d0 := 33) (v0 := v33) (l0 := []) (d := 36) (L' := [(38, v38, [(p : Int)]), (40, v40, [])]) ho (by simp) ho9 hoth hor (by simp)).sub (by simp))
    · go_simp; refine hKW.out _ _ ?_ (fun hHeld => ?_); (focus ((try dsimp only); exact hS.out _ (by repeat (first | exact Below.refl _ _ | assumption | refine bel_drew ?_ | refine bel_drewN ?_ _ | refine bel_alloc ?_ _ | refine bel_trans ?_ (by assumption)))))
      (try simp only [Act.put, List.setIfInBounds_toArray, List.set_cons_zero, List.set_cons_succ])
      exact L0_16813 _ v33 v38 v40 (.slice (some ⟨WW.heap.size, 0, none⟩) 1 1) (by repeat (first | exact Below.refl _ _ | assumption | refine bel_drew ?_ | refine bel_drewN ?_ _ | refine bel_alloc ?_ _ | refine bel_trans ?_ (by assumption))) ((Own2.lit (d := 45) ho hb.size (by simp) (own_oneI2 WW ((j : Int) : Int))).sub (by simp))
  have L0_1613 : ∀ (WW : World) (v33 v38 v45 : Value), Below W6.heap.size W6 WW → Own2 W6.heap.size WW [(33, v33, []), (38, v38, [(p : Int)]), (45, v45, [((j : Int) : Int)])] → wpAnyH Try.prog .any OPS Q' (fun W : World => W.cell? ⟨u1.heap.size, 0, none⟩ = some (.slice Ao' n co') ∧ W.cell? ⟨u1.heap.size, 1, none⟩ = some (.slice Ag' n cg') ∧ W.cell? ⟨u1.heap.size, 2, none⟩ = some (.slice Ac' m' cc') ∧ W.cell? ⟨u1.heap.size, 3, none⟩ = some (.int .i64 (fr' : Int)) ∧ W.cell? ⟨w.heap.size, 4, none⟩ = some (.slice An N.length cn) ∧ W.cell? ⟨w.heap.size, 5, none⟩ = some (.slice Ap N.length cp)) 10 #[true, true, true, true, false, true, true, false, false, true, true, false, true, true, false, false, true, true, false, false, false, false] (((a0.put (some 33) v33).put (some 38) v38).put (some 45) v45) WW := by
    intro WW v33 v38 v45 hb ho
    subst hO
    subst ha
    simp only [Act.put, List.setIfInBounds_toArray, List.set_cons_zero, List.set_cons_succ] at L1_1613
    simp only [Act.put, List.setIfInBounds_toArray, List.set_cons_zero, List.set_cons_succ] at L0_16813
    (try simp only [Act.put, List.setIfInBounds_toArray, List.set_cons_zero, List.set_cons_succ])
    refine wpAnyH_ready (rs := [4, 8]) (by kernel_rfl) (by simp) (ready_cons (i := 4) rfl (by kernel_rfl) (fun KW hKW => ?_) (ready_cons (i := 8) rfl (by kernel_rfl) (fun KW hKW => ?_) (AllReadyH.nil)))
    · refine app_operI2 (.tmp 33) (.tmp 35) rfl W6.heap.size v33 [] rfl (ho.own (d := 33) (v := v33) (l := []) (by simp)) An N.length cn (ints N) rfl (HN1.out _ hb) HL1.out hb.size ?_
      intro v9 W9 ho9 hb9 hoth hor hsz
      have hb2 := hb.trans hb9
      refine hKW.out _ _ ?_ (fun hHeld => ?_); (focus ((try dsimp only); exact hS.out _ hb2))
      (try simp only [Act.put, List.setIfInBounds_toArray, List.set_cons_zero, List.set_cons_succ])
      exact L1_1613 _ v33 v9 v38 v45 hb2 ((Own2.app (d0 := 33) (v0 := v33) (l0 := []) (d := 36) (L' := [(38, v38, [(p : Int)]), (45, v45, [((j : Int) : Int)])]) ho (by simp) ho9 hoth hor (by simp)).sub (by simp))
    · go_simp; refine hKW.out _ _ ?_ (fun hHeld => ?_); (focus ((try dsimp only); exact hS.out _ (by repeat (first | exact Below.refl _ _ | assumption | refine bel_drew ?_ | refine bel_drewN ?_ _ | refine bel_alloc ?_ _ | refine bel_trans ?_ (by assumption)))))
      (try simp only [Act.put, List.setIfInBounds_toArray, List.set_cons_zero, List.set_cons_succ])
      exact L0_16813 _ v33 v38 (.slice (some ⟨WW.heap.size, 0, none⟩) 0 0) v45 (by repeat (first | exact Below.refl _ _ | assumption | refine bel_drew ?_ | refine bel_drewN ?_ _ | refine bel_alloc ?_ _ | refine bel_trans ?_ (by assumption))) ((Own2.lit (d := 40) ho hb.size (by simp) (own_emptyI WW)).sub (by simp))
  have L0_16 : ∀ (WW : World) (v33 v38 : Value), Below W6.heap.size W6 WW → Own2 W6.heap.size WW [(33, v33, []), (38, v38, [(p : Int)])] → wpAnyH Try.prog .any OPS Q' (fun W : World => W.cell? ⟨u1.heap.size, 0, none⟩ = some (.slice Ao' n co') ∧ W.cell? ⟨u1.heap.size, 1, none⟩ = some (.slice Ag' n cg') ∧ W.cell? ⟨u1.heap.size, 2, none⟩ = some (.slice Ac' m' cc') ∧ W.cell? ⟨u1.heap.size, 3, none⟩ = some (.int .i64 (fr' : Int)) ∧ W.cell? ⟨w.heap.size, 4, none⟩ = some (.slice An N.length cn) ∧ W.cell? ⟨w.heap.size, 5, none⟩ = some (.slice Ap N.length cp)) 11 #[true, true, true, true, false, true, true, false, false, true, true, false, true, false, false, false, true, true, false, false, false, false] ((a0.put (some 33) v33).put (some 38) v38) WW := by
    intro WW v33 v38 hb ho
    subst hO
    subst ha
    simp only [Act.put, List.setIfInBounds_toArray, List.set_cons_zero, List.set_cons_succ] at L1_16
    simp only [Act.put, List.setIfInBounds_toArray, List.set_cons_zero, List.set_cons_succ] at L0_168
    simp only [Act.put, List.setIfInBounds_toArray, List.set_cons_zero, List.set_cons_succ] at L0_1613
    (try simp only [Act.put, List.setIfInBounds_toArray, List.set_cons_zero, List.set_cons_succ])
    refine wpAnyH_ready (rs := [4, 8, 13]) (by kernel_rfl) (by simp) (ready_cons (i := 4) rfl (by kernel_rfl) (fun KW hKW => ?_) (ready_cons (i := 8) rfl (by kernel_rfl) (fun KW hKW => ?_) (ready_cons (i := 13) rfl (by kernel_rfl) (fun KW hKW => ?_) (AllReadyH.nil))))
    · refine app_operI2 (.tmp 33) (.tmp 35) rfl W6.heap.size v33 [] rfl (ho.own (d := 33) (v := v33) (l := []) (by simp)) An N.length cn (ints N) rfl (HN1.out _ hb) HL1.out hb.size ?_
      intro v9 W9 ho9 hb9 hoth hor hsz
      have hb2 := hb.trans hb9
      refine hKW.out _ _ ?_ (fun hHeld => ?_); (focus ((try dsimp only); exact hS.out _ hb2))
      (try simp only [Act.put, List.setIfInBounds_toArray, List.set_cons_zero, List.set_cons_succ])
      exact L1_16 _ v33 v9 v38 hb2 ((Own2.app (d0 := 33) (v0 := v33) (l0 := []) (d := 36) (L' := [(38, v38, [(p : Int)])]) ho (by simp) ho9 hoth hor (by simp)).sub (by simp))
    · go_simp; refine hKW.out _ _ ?_ (fun hHeld => ?_); (focus ((try dsimp only); exact hS.out _ (by repeat (first | exact Below.refl _ _ | assumption | refine bel_drew ?_ | refine bel_drewN ?_ _ | refine bel_alloc ?_ _ | refine bel_trans ?_ (by assumption)))))
      (try simp only [Act.put, List.setIfInBounds_toArray, List.set_cons_zero, List.set_cons_succ])
      exact L0_168 _ v33 v38 (.slice (some ⟨WW.heap.size, 0, none⟩) 0 0) (by repeat (first | exact Below.refl _ _ | assumption | refine bel_drew ?_ | refine bel_drewN ?_ _ | refine bel_alloc ?_ _ | refine bel_trans ?_ (by assumption))) ((Own2.lit (d := 40) ho hb.size (by simp) (own_emptyI WW)).sub (by simp))
    · go_simp; refine hKW.out _ _ ?_ (fun hHeld => ?_); (focus ((try dsimp only); exact hS.out _ (by repeat (first | exact Below.refl _ _ | assumption | refine bel_drew ?_ | refine bel_drewN ?_ _ | refine bel_alloc ?_ _ | refine bel_trans ?_ (by assumption)))))
      (try simp only [Act.put, List.setIfInBounds_toArray, List.set_cons_zero, List.set_cons_succ])
      exact L0_1613 _ v33 v38 (.slice (some ⟨WW.heap.size, 0, none⟩) 1 1) (by repeat (first | exact Below.refl _ _ | assumption | refine bel_drew ?_ | refine bel_drewN ?_ _ | refine bel_alloc ?_ _ | refine bel_trans ?_ (by assumption))) ((Own2.lit (d := 45) ho hb.size (by simp) (own_oneI2 WW ((j : Int) : Int))).sub (by simp))
  have L0_1813 : ∀ (WW : World) (v33 v40 v45 : Value), Below W6.heap.size W6 WW → Own2 W6.heap.size WW [(33, v33, []), (40, v40, []), (45, v45, [((j : Int) : Int)])] → wpAnyH Try.prog .any OPS Q' (fun W : World => W.cell? ⟨u1.heap.size, 0, none⟩ = some (.slice Ao' n co') ∧ W.cell? ⟨u1.heap.size, 1, none⟩ = some (.slice Ag' n cg') ∧ W.cell? ⟨u1.heap.size, 2, none⟩ = some (.slice Ac' m' cc') ∧ W.cell? ⟨u1.heap.size, 3, none⟩ = some (.int .i64 (fr' : Int)) ∧ W.cell? ⟨w.heap.size, 4, none⟩ = some (.slice An N.length cn) ∧ W.cell? ⟨w.heap.size, 5, none⟩ = some (.slice Ap N.length cp)) 10 #[true, true, true, true, false, true, false, false, true, true, true, false, true, true, false, false, true, true, false, false, false, false] (((a0.put (some 33) v33).put (some 40) v40).put (some 45) v45) WW := by
    intro WW v33 v40 v45 hb ho
    subst hO
    subst ha
    simp only [Act.put, List.setIfInBounds_toArray, List.set_cons_zero, List.set_cons_succ] at L1_1813
    simp only [Act.put, List.setIfInBounds_toArray, List.set_cons_zero, List.set_cons_succ] at L0_16813
    (try simp only [Act.put, List.setIfInBounds_toArray, List.set_cons_zero, List.set_cons_succ])
    refine wpAnyH_ready (rs := [4, 6]) (by kernel_rfl) (by simp) (ready_cons (i := 4) rfl (by kernel_rfl) (fun KW hKW => ?_) (ready_cons (i := 6) rfl (by kernel_rfl) (fun KW hKW => ?_) (AllReadyH.nil)))
    · refine app_operI2 (.tmp 33) (.tmp 35) rfl W6.heap.size v33 [] rfl (ho.own (d := 33) (v := v33) (l := []) (by simp)) An N.length cn (ints N) rfl (HN1.out _ hb) HL1.out hb.size ?_
      intro v9 W9 ho9 hb9 hoth hor hsz
      have hb2 := hb.trans hb9
      refine hKW.out _ _ ?_ (fun hHeld => ?_); (focus ((try dsimp only); exact hS.out _ hb2))
      (try simp only [Act.put, List.setIfInBounds_toArray, List.set_cons_zero, List.set_cons_succ])
      exact L1_1813 _ v33 v9 v40 v45 hb2 ((Own2.app (d0 := 33) (v0 := v33) (l0 := []) (d := 36) (L' := [(40, v40, []), (45, v45, [((j : Int) : Int)])]) ho (by simp) ho9 hoth hor (by simp)).sub (by simp))
    · go_simp; refine hKW.out _ _ ?_ (fun hHeld => ?_); (focus ((try dsimp only); exact hS.out _ (by repeat (first | exact Below.refl _ _ | assumption | refine bel_drew ?_ | refine bel_drewN ?_ _ | refine bel_alloc ?_ _ | refine bel_trans ?_ (by assumption)))))
      (try simp only [Act.put, List.setIfInBounds_toArray, List.set_cons_zero, List.set_cons_succ])
      exact L0_16813 _ v33 (.slice (some ⟨WW.heap.size, 0, none⟩) 1 1) v40 v45 (by repeat (first | exact Below.refl _ _ | assumption | refine bel_drew ?_ | refine bel_drewN ?_ _ | refine bel_alloc ?_ _ | refine bel_trans ?_ (by assumption))) ((Own2.lit (d := 38) ho hb.size (by simp) (own_oneI2 WW (p : Int))).sub (by simp))
  have L0_18 : ∀ (WW : World) (v33 v40 : Value), Below W6.heap.size W6 WW → Own2 W6.heap.size WW [(33, v33, []), (40, v40, [])] → wpAnyH Try.prog .any OPS Q' (fun W : World => W.cell? ⟨u1.heap.size, 0, none⟩ = some (.slice Ao' n co') ∧ W.cell? ⟨u1.heap.size, 1, none⟩ = some (.slice Ag' n cg') ∧ W.cell? ⟨u1.heap.size, 2, none⟩ = some (.slice Ac' m' cc') ∧ W.cell? ⟨u1.heap.size, 3, none⟩ = some (.int .i64 (fr' : Int)) ∧ W.cell? ⟨w.heap.size, 4, none⟩ = some (.slice An N.length cn) ∧ W.cell? ⟨w.heap.size, 5, none⟩ = some (.slice Ap N.length cp)) 11 #[true, true, true, true, false, true, false, false, true, true, true, false, true, false, false, false, true, true, false, false, false, false] ((a0.put (some 33) v33).put (some 40) v40) WW := by
    intro WW v33 v40 hb ho
    subst hO
    subst ha
    simp only [Act.put, List.setIfInBounds_toArray, List.set_cons_zero, List.set_cons_succ] at L1_18
    simp only [Act.put, List.setIfInBounds_toArray, List.set_cons_zero, List.set_cons_succ] at L0_168
    simp only [Act.put, List.setIfInBounds_toArray, List.set_cons_zero, List.set_cons_succ] at L0_1813
    (try simp only [Act.put, List.setIfInBounds_toArray, List.set_cons_zero, List.set_cons_succ])
    refine wpAnyH_ready (rs := [4, 6, 13]) (by kernel_rfl) (by simp) (ready_cons (i := 4) rfl (by kernel_rfl) (fun KW hKW => ?_) (ready_cons (i := 6) rfl (by kernel_rfl) (fun KW hKW => ?_) (ready_cons (i := 13) rfl (by kernel_rfl) (fun KW hKW => ?_) (AllReadyH.nil))))
    · refine app_operI2 (.tmp 33) (.tmp 35) rfl W6.heap.size v33 [] rfl (ho.own (d := 33) (v := v33) (l := []) (by simp)) An N.length cn (ints N) rfl (HN1.out _ hb) HL1.out hb.size ?_
      intro v9 W9 ho9 hb9 hoth hor hsz
      have hb2 := hb.trans hb9
      refine hKW.out _ _ ?_ (fun hHeld => ?_); (focus ((try dsimp only); exact hS.out _ hb2))
      (try simp only [Act.put, List.setIfInBounds_toArray, List.set_cons_zero, List.set_cons_succ])
      exact L1_18 _ v33 v9 v40 hb2 ((Own2.app (d0 := 33) (v0 := v33) (l0 := []) (d := 36) (L' := [(40, v40, [])]) ho (by simp) ho9 hoth hor (by simp)).sub (by simp))
    · go_simp; refine hKW.out _ _ ?_ (fun hHeld => ?_); (focus ((try dsimp only); exact hS.out _ (by repeat (first | exact Below.refl _ _ | assumption | refine bel_drew ?_ | refine bel_drewN ?_ _ | refine bel_alloc ?_ _ | refine bel_trans ?_ (by assumption)))))
      (try simp only [Act.put, List.setIfInBounds_toArray, List.set_cons_zero, List.set_cons_succ])
      exact L0_168 _ v33 (.slice (some ⟨WW.heap.size, 0, none⟩) 1 1) v40 (by repeat (first | exact Below.refl _ _ | assumption | refine bel_drew ?_ | refine bel_drewN ?_ _ | refine bel_alloc ?_ _ | refine bel_trans ?_ (by assumption))) ((Own2.lit (d := 38) ho hb.size (by simp) (own_oneI2 WW (p : Int))).sub (by simp))
    · go_simp; refine hKW.out _ _ ?_ (fun hHeld => ?_); (focus ((try dsimp only); exact hS.out _ (by repeat (first | exact Below.refl _ _ | assumption | refine bel_drew ?_ | refine bel_drewN ?_ _ | refine bel_alloc ?_ _ | refine bel_trans ?_ (by assumption)))))
      (try simp only [Act.put, List.setIfInBounds_toArray, List.set_cons_zero, List.set_cons_succ])
      exact L0_1813 _ v33 v40 (.slice (some ⟨WW.heap.size, 0, none⟩) 1 1) (by repeat (first | exact Below.refl _ _ | assumption | refine bel_drew ?_ | refine bel_drewN ?_ _ | refine bel_alloc ?_ _ | refine bel_trans ?_ (by assumption))) ((Own2.lit (d := 45) ho hb.size (by simp) (own_oneI2 WW ((j : Int) : Int))).sub (by simp))
  have L0_113 : ∀ (WW : World) (v33 v45 : Value), Below W6.heap.size W6 WW → Own2 W6.heap.size WW [(33, v33, []), (45, v45, [((j : Int) : Int)])] → wpAnyH Try.prog .any OPS Q' (fun W : World => W.cell? ⟨u1.heap.size, 0, none⟩ = some (.slice Ao' n co') ∧ W.cell? ⟨u1.heap.size, 1, none⟩ = some (.slice Ag' n cg') ∧ W.cell? ⟨u1.heap.size, 2, none⟩ = some (.slice Ac' m' cc') ∧ W.cell? ⟨u1.heap.size, 3, none⟩ = some (.int .i64 (fr' : Int)) ∧ W.cell? ⟨w.heap.size, 4, none⟩ = some (.slice An N.length cn) ∧ W.cell? ⟨w.heap.size, 5, none⟩ = some (.slice Ap N.length cp)) 11 #[true, true, true, true, false, true, false, false, false, true, true, false, true, true, false, false, true, true, false, false, false, false] ((a0.put (some 33) v33).put (some 45) v45) WW := by
    intro WW v33 v45 hb ho
    subst hO
    subst ha
    simp only [Act.put, List.setIfInBounds_toArray, List.set_cons_zero, List.set_cons_succ] at L1_113
    simp only [Act.put, List.setIfInBounds_toArray, List.set_cons_zero, List.set_cons_succ] at L0_1613
    simp only [Act.put, List.setIfInBounds_toArray, List.set_cons_zero, List.set_cons_succ] at L0_1813
    (try simp only [Act.put, List.setIfInBounds_toArray, List.set_cons_zero, List.set_cons_succ])
    refine wpAnyH_ready (rs := [4, 6, 8]) (by kernel_rfl) (by simp) (ready_cons (i := 4) rfl (by kernel_rfl) (fun KW hKW => ?_) (ready_cons (i := 6) rfl (by kernel_rfl) (fun KW hKW => ?_) (ready_cons (i := 8) rfl (by kernel_rfl) (fun KW hKW => ?_) (AllReadyH.nil))))
    · refine app_operI2 (.tmp 33) (.tmp 35) rfl W6.heap.size v33 [] rfl (ho.own (d := 33) (v := v33) (l := []) (by simp)) An N.length cn (ints N) rfl (HN1.out _ hb) HL1.out hb.size ?_
      intro v9 W9 ho9 hb9 hoth hor hsz
      have hb2 := hb.trans hb9
      refine hKW.out _ _ ?_ (fun hHeld => ?_); (focus ((try dsimp only); exact hS.out _ hb2))
      (try simp only [Act.put, List.setIfInBounds_toArray, List.set_cons_zero, List.set_cons_succ])
      exact L1_113 _ v33 v9 v45 hb2 ((Own2.app (d0 := 33) (v0 := v33) (l0 := []) (d := 36) (L' := [(45, v45, [((j : Int) : Int)])]) ho (by simp) ho9 hoth hor (by simp)).sub (by simp))
    · go_simp; refine hKW.out _ _ ?_ (fun hHeld => ?_); (focus ((try dsimp only); exact hS.out _ (by repeat (first | exact Below.refl _ _ | assumption | refine bel_drew ?_ | refine bel_drewN ?_ _ | refine bel_alloc ?_ _ | refine bel_trans ?_ (by assumption)))))
      (try simp only [Act.put, List.setIfInBounds_toArray, List.set_cons_zero, List.set_cons_succ])
      exact L0_1613 _ v33 (.slice (some ⟨WW.heap.size, 0, none⟩) 1 1) v45 (by repeat (first | exact Below.refl _ _ | assumption | refine bel_drew ?_ | refine bel_drewN ?_ _ | refine bel_alloc ?_ _ | refine bel_trans ?_ (by assumption))) ((Own2.lit (d := 38) ho hb.size (by simp) (own_oneI2 WW (p : Int))).sub (by simp))
    · go_simp; refine hKW.out _ _ ?_ (fun hHeld => ?_); (focus ((try dsimp only); exact hS.out _ (by repeat (first | exact Below.refl _ _ | assumption | refine bel_drew ?_ | refine bel_drewN ?_ _ | refine bel_alloc ?_ _ | refine bel_trans ?_ (by assumption)))))
      (try simp only [Act.put, List.setIfInBounds_toArray, List.set_cons_zero, List.set_cons_succ])
      exact L0_1813 _ v33 (.slice (some ⟨WW.heap.size, 0, none⟩) 0 0) v45 (by repeat (first | exact Below.refl _ _ | assumption | refine bel_drew ?_ | refine bel_drewN ?_ _ | refine bel_alloc ?_ _ | refine bel_trans ?_ (by assumption))) ((Own2.lit (d := 40) ho hb.size (by simp) (own_emptyI WW)).sub (by simp))
  have L0_1 : ∀ (WW : World) (v33 : Value), Below W6.heap.size W6 WW → Own2 W6.heap.size WW [(33, v33, [])] → wpAnyH Try.prog .any OPS Q' (fun W : World => W.cell? ⟨u1.heap.size, 0, none⟩ = some (.slice Ao' n co') ∧ W.cell? ⟨u1.heap.size, 1, none⟩ = some (.slice Ag' n cg') ∧ W.cell? ⟨u1.heap.size, 2, none⟩ = some (.slice Ac' m' cc') ∧ W.cell? ⟨u1.heap.size, 3, none⟩ = some (.int .i64 (fr' : Int)) ∧ W.cell? ⟨w.heap.size, 4, none⟩ = some (.slice An N.length cn) ∧ W.cell? ⟨w.heap.size, 5, none⟩ = some (.slice Ap N.length cp)) 12 #[true, true, true, true, false, true, false, false, false, true, true, false, true, false, false, false, true, true, false, false, false, false] (a0.put (some 33) v33) WW := by
    intro WW v33 hb ho
    subst hO
    subst ha
    simp only [Act.put, List.setIfInBounds_toArray, List.set_cons_zero, List.set_cons_succ] at L1_1
    simp only [Act.put, List.setIfInBounds_toArray, List.set_cons_zero, List.set_cons_succ] at L0_16
    simp only [Act.put, List.setIfInBounds_toArray, List.set_cons_zero, List.set_cons_succ] at L0_18
    simp only [Act.put, List.setIfInBounds_toArray, List.set_cons_zero, List.set_cons_succ] at L0_113
    (try simp only [Act.put, List.setIfInBounds_toArray, List.set_cons_zero, List.set_cons_succ])
    refine wpAnyH_ready (rs := [4, 6, 8, 13]) (by kernel_rfl) (by simp) (ready_cons (i := 4) rfl (by kernel_rfl) (fun KW hKW => ?_) (ready_cons (i := 6) rfl (by kernel_rfl) (fun KW hKW => ?_) (ready_cons (i := 8) rfl (by kernel_rfl) (fun KW hKW => ?_) (ready_cons (i := 13) rfl (by kernel_rfl) (fun KW hKW => ?_) (AllReadyH.nil)))))
    · refine app_operI2 (.tmp 33) (.tmp 35) rfl W6.heap.size v33 [] rfl (ho.own (d := 33) (v := v33) (l := []) (by simp)) An N.length cn (ints N) rfl (HN1.out _ hb) HL1.out hb.size ?_
      intro v9 W9 ho9 hb9 hoth hor hsz
      have hb2 := hb.trans hb9
      refine hKW.out _ _ ?_ (fun hHeld => ?_); (focus ((try dsimp only); exact hS.out _ hb2))
      (try simp only [Act.put, List.setIfInBounds_toArray, List.set_cons_zero, List.set_cons_succ])
      exact L1_1 _ v33 v9 hb2 ((Own2.app (d0 := 33) (v0 := v33) (l0 := []) (d := 36) (L' := []) ho (by simp) ho9 hoth hor (by simp)).sub (by simp))
    · go_simp; refine hKW.out _ _ ?_ (fun hHeld => ?_); (focus ((try dsimp only); exact hS.out _ (by repeat (first | exact Below.refl _ _ | assumption | refine bel_drew ?_ | refine bel_drewN ?_ _ | refine bel_alloc ?_ _ | refine bel_trans ?_ (by assumption)))))
      (try simp only [Act.put, List.setIfInBounds_toArray, List.set_cons_zero, List.set_cons_succ])
      exact L0_16 _ v33 (.slice (some ⟨WW.heap.size, 0, none⟩) 1 1) (by repeat (first | exact Below.refl _ _ | assumption | refine bel_drew ?_ | refine bel_drewN ?_ _ | refine bel_alloc ?_ _ | refine bel_trans ?_ (by assumption))) ((Own2.lit (d := 38) ho hb.size (by simp) (own_oneI2 WW (p : Int))).sub (by simp))
    · go_simp; refine hKW.out _ _ ?_ (fun hHeld => ?_); (focus ((try dsimp only); exact hS.out _ (by repeat (first | exact Below.refl _ _ | assumption | refine bel_drew ?_ | refine bel_drewN ?_ _ | refine bel_alloc ?_ _ | refine bel_trans ?_ (by assumption)))))
      (try simp only [Act.put, List.setIfInBounds_toArray, List.set_cons_zero, List.set_cons_succ])
      exact L0_18 _ v33 (.slice (some ⟨WW.heap.size, 0, none⟩) 0 0) (by repeat (first | exact Below.refl _ _ | assumption | refine bel_drew ?_ | refine bel_drewN ?_ _ | refine bel_alloc ?_ _ | refine bel_trans ?_ (by assumption))) ((Own2.lit (d := 40) ho hb.size (by simp) (own_emptyI WW)).sub (by simp))
    · go_simp; refine hKW.out _ _ ?_ (fun hHeld => ?_); (focus ((try dsimp only); exact hS.out _ (by repeat (first | exact Below.refl _ _ | assumption | refine bel_drew ?_ | refine bel_drewN ?_ _ | refine bel_alloc ?_ _ | refine bel_trans ?_ (by assumption)))))
      (try simp only [Act.put, List.setIfInBounds_toArray, List.set_cons_zero, List.set_cons_succ])
      exact L0_113 _ v33 (.slice (some ⟨WW.heap.size, 0, none⟩) 1 1) (by repeat (first | exact Below.refl _ _ | assumption | refine bel_drew ?_ | refine bel_drewN ?_ _ | refine bel_alloc ?_ _ | refine bel_trans ?_ (by assumption))) ((Own2.lit (d := 45) ho hb.size (by simp) (own_oneI2 WW ((j : Int) : Int))).sub (by simp))
  have L0_6813 : ∀ (WW : World) (v38 v40 v45 : Value), Below W6.heap.size W6 WW → Own2 W6.heap.size WW [(38, v38, [(p : Int)]), (40, v40, []), (45, v45, [((j : Int) : Int)])] → wpAnyH Try.prog .any OPS Q' (fun W : World => W.cell? ⟨u1.heap.size, 0, none⟩ = some (.slice Ao' n co') ∧ W.cell? ⟨u1.heap.size, 1, none⟩ = some (.slice Ag' n cg') ∧ W.cell? ⟨u1.heap.size, 2, none⟩ = some (.slice Ac' m' cc') ∧ W.cell? ⟨u1.heap.size, 3, none⟩ = some (.int .i64 (fr' : Int)) ∧ W.cell? ⟨w.heap.size, 4, none⟩ = some (.slice An N.length cn) ∧ W.cell? ⟨w.heap.size, 5, none⟩ = some (.slice Ap N.length cp)) 10 #[true, false, true, true, false, true, true, false, true, true, true, false, true, true, false, false, true, true, false, false, false, false] (((a0.put (some 38) v38).put (some 40) v40).put (some 45) v45) WW := by
    intro WW v38 v40 v45 hb ho
    subst hO
    subst ha
    simp only [Act.put, List.setIfInBounds_toArray, List.set_cons_zero, List.set_cons_succ] at L0_16813
    (try simp only [Act.put, List.setIfInBounds_toArray, List.set_cons_zero, List.set_cons_succ])
    refine wpAnyH_ready (rs := [1]) (by kernel_rfl) (by simp) (ready_cons (i := 1) rfl (by kernel_rfl) (fun KW hKW => ?_) (AllReadyH.nil))
    · go_simp; refine hKW.out _ _ ?_ (fun hHeld => ?_); (focus ((try dsimp only); exact hS.out _ (by repeat (first | exact Below.refl _ _ | assumption | refine bel_drew ?_ | refine bel_drewN ?_ _ | refine bel_alloc ?_ _ | refine bel_trans ?_ (by assumption)))))
      (try simp only [Act.put, List.setIfInBounds_toArray, List.set_cons_zero, List.set_cons_succ])
      exact L0_16813 _ (.slice (some ⟨WW.heap.size, 0, none⟩) 0 0) v38 v40 v45 (by repeat (first | exact Below.refl _ _ | assumption | refine bel_drew ?_ | refine bel_drewN ?_ _ | refine bel_alloc ?_ _ | refine bel_trans ?_ (by assumption))) ((Own2.lit (d := 33) ho hb.size (by simp) (own_emptyI WW)).sub (by simp))
  have L0_68 : ∀ (WW : World) (v38 v40 : Value), Below W6.heap.size W6 WW → Own2 W6.heap.size WW [(38, v38, [(p : Int)]), (40, v40, [])] → wpAnyH Try.prog .any OPS Q' (fun W : World => W.cell? ⟨u1.heap.size, 0, none⟩ = some (.slice Ao' n co') ∧ W.cell? ⟨u1.heap.size, 1, none⟩ = some (.slice Ag' n cg') ∧ W.cell? ⟨u1.heap.size, 2, none⟩ = some (.slice Ac' m' cc') ∧ W.cell? ⟨u1.heap.size, 3, none⟩ = some (.int .i64 (fr' : Int)) ∧ W.cell? ⟨w.heap.size, 4, none⟩ = some (.slice An N.length cn) ∧ W.cell? ⟨w.heap.size, 5, none⟩ = some (.slice Ap N.length cp)) 11 #[true, false, true, true, false, true, true, false, true, true, true, false, true, false, false, false, true, true, false, false, false, false] ((a0.put (some 38) v38).put (some 40) v40) WW := by
    intro WW v38 v40 hb ho
    subst hO
    subst ha
    simp only [Act.put, List.setIfInBounds_toArray, List.set_cons_zero, List.set_cons_succ] at L0_168
    simp only [Act.put, List.setIfInBounds_toArray, List.set_cons_zero, List.set_cons_succ] at L0_6813
    (try simp only [Act.put, List.setIfInBounds_toArray, List.set_cons_zero, List.set_cons_succ])
    refine wpAnyH_ready (rs := [1, 13]) (by kernel_rfl) (by simp) (ready_cons (i := 1) rfl (by kernel_rfl) (fun KW hKW => ?_) (ready_cons (i := 13) rfl (by kernel_rfl) (fun KW hKW => ?_) (AllReadyH.nil)))
    · go_simp; refine hKW.out _ _ ?_ (fun hHeld => ?_); (focus ((try dsimp only); exact hS.out _ (by repeat (first | exact Below.refl _ _ | assumption | refine bel_drew ?_ | refine bel_drewN ?_ _ | refine bel_alloc ?_ _ | refine bel_trans ?_ (by assumption)))))
      (try simp only [Act.put, List.setIfInBounds_toArray, List.set_cons_zero, List.set_cons_succ])
      exact L0_168 _ (.slice (some ⟨WW.heap.size, 0, none⟩) 0 0) v38 v40 (by repeat (first | exact Below.refl _ _ | assumption | refine bel_drew ?_ | refine bel_drewN ?_ _ | refine bel_alloc ?_ _ | refine bel_trans ?_ (by assumption))) ((Own2.lit (d := 33) ho hb.size (by simp) (own_emptyI WW)).sub (by simp))
    · go_simp; refine hKW.out _ _ ?_ (fun hHeld => ?_); (focus ((try dsimp only); exact hS.out _ (by repeat (first | exact Below.refl _ _ | assumption | refine bel_drew ?_ | refine bel_drewN ?_ _ | refine bel_alloc ?_ _ | refine bel_trans ?_ (by assumption)))))
      (try simp only [Act.put, List.setIfInBounds_toArray, List.set_cons_zero, List.set_cons_succ])
      exact L0_6813 _ v38 v40 (.slice (some ⟨WW.heap.size, 0, none⟩) 1 1) (by repeat (first | exact Below.refl _ _ | assumption | refine bel_drew ?_ | refine bel_drewN ?_ _ | refine bel_alloc ?_ _ | refine bel_trans ?_ (by assumption))) ((Own2.lit (d := 45) ho hb.size (by simp) (own_oneI2 WW ((j : Int) : Int))).sub (by simp))
  have L0_613 : ∀ (WW : World) (v38 v45 : Value), Below W6.heap.size W6 WW → Own2 W6.heap.size WW [(38, v38, [(p : Int)]), (45, v45, [((j : Int) : Int)])] → wpAnyH Try.prog .any OPS Q' (fun W : World => W.cell? ⟨u1.heap.size, 0, none⟩ = some (.slice Ao' n co') ∧ W.cell? ⟨u1.heap.size, 1, none⟩ = some (.slice Ag' n cg') ∧ W.cell? ⟨u1.heap.size, 2, none⟩ = some (.slice Ac' m' cc') ∧ W.cell? ⟨u1.heap.size, 3, none⟩ = some (.int .i64 (fr' : Int)) ∧ W.cell? ⟨w.heap.size, 4, none⟩ = some (.slice An N.length cn) ∧ W.cell? ⟨w.heap.size, 5, none⟩ = some (.slice Ap N.length cp)) 11 #[true, false, true, true, false, true, true, false, false, true, true, false, true, true, false, false, true, true, false, false, false, false] ((a0.put (some 38) v38).put (some 45) v45) WW := by
    intro WW v38 v45 hb ho
    subst hO
    subst ha
    simp only [Act.put, List.setIfInBounds_toArray, List.set_cons_zero, List.set_cons_succ] at L0_1613
    simp only [Act.put, List.setIfInBounds_toArray, List.set_cons_zero, List.set_cons_succ] at L0_6813
    (try simp only [Act.put, List.setIfInBounds_toArray, List.set_cons_zero, List.set_cons_succ])
    refine wpAnyH_ready (rs := [1, 8]) (by kernel_rfl) (by simp) (ready_cons (i := 1) rfl (by kernel_rfl) (fun KW hKW => ?_) (ready_cons (i := 8) rfl (by kernel_rfl) (fun KW hKW => ?_) (AllReadyH.nil)))
    · go_simp; refine hKW.out _ _ ?_ (fun hHeld => ?_); (focus ((try dsimp only); exact hS.out _ (by repeat (first | exact Below.refl _ _ | assumption | refine bel_drew ?_ | refine bel_drewN ?_ _ | refine bel_alloc ?_ _ | refine bel_trans ?_ (by assumption)))))
      (try simp only [Act.put, List.setIfInBounds_toArray, List.set_cons_zero, List.set_cons_succ])
      exact L0_1613 _ (.slice (some ⟨WW.heap.size, 0, none⟩) 0 0) v38 v45 (by repeat (first | exact Below.refl _ _ | assumption | refine bel_drew ?_ | refine bel_drewN ?_ _ | refine bel_alloc ?_ _ | refine bel_trans ?_ (by assumption))) ((Own2.lit (d := 33) ho hb.size (by simp) (own_emptyI WW)).sub (by simp))
    · go_simp; refine hKW.out _ _ ?_ (fun hHeld => ?_); (focus ((try dsimp only); exact hS.out _ (by repeat (first | exact Below.refl _ _ | assumption | refine bel_drew ?_ | refine bel_drewN ?_ _ | refine bel_alloc ?_ _ | refine bel_trans ?_ (by assumption)))))
      (try simp only [Act.put, List.setIfInBounds_toArray, List.set_cons_zero, List.set_cons_succ])
      exact L0_6813 _ v38 (.slice (some ⟨WW.heap.size, 0, none⟩) 0 0) v45 (by repeat (first | exact Below.refl _ _ | assumption | refine bel_drew ?_ | refine bel_drewN ?_ _ | refine bel_alloc ?_ _ | refine bel_trans ?_ (by assumption))) ((Own2.lit (d := 40) ho hb.size (by simp) (own_emptyI WW)).sub (by simp))
  have L0_6 : ∀ (WW : World) (v38 : Value), Below W6.heap.size W6 WW → Own2 W6.heap.size WW [(38, v38, [(p : Int)])] → wpAnyH Try.prog .any OPS Q' (fun W : World => W.cell? ⟨u1.heap.size, 0, none⟩ = some (.slice Ao' n co') ∧ W.cell? ⟨u1.heap.size, 1, none⟩ = some (.slice Ag' n cg') ∧ W.cell? ⟨u1.heap.size, 2, none⟩ = some (.slice Ac' m' cc') ∧ W.cell? ⟨u1.heap.size, 3, none⟩ = some (.int .i64 (fr' : Int)) ∧ W.cell? ⟨w.heap.size, 4, none⟩ = some (.slice An N.length cn) ∧ W.cell? ⟨w.heap.size, 5, none⟩ = some (.slice Ap N.length cp)) 12 #[true, false, true, true, false, true, true, false, false, true, true, false, true, false, false, false, true, true, false, false, false, false] (a0.put (some 38) v38) WW := by
    intro WW v38 hb ho
    subst hO
    subst ha
    simp only [Act.put, List.setIfInBounds_toArray, List.set_cons_zero, List.set_cons_succ] at L0_16
    simp only [Act.put, List.setIfInBounds_toArray, List.set_cons_zero, List.set_cons_succ] at L0_68
    simp only [Act.put, List.setIfInBounds_toArray, List.set_cons_zero, List.set_cons_succ] at L0_613
    (try simp only [Act.put, List.setIfInBounds_toArray, List.set_cons_zero, List.set_cons_succ])
    refine wpAnyH_ready (rs := [1, 8, 13]) (by kernel_rfl) (by simp) (ready_cons (i := 1) rfl (by kernel_rfl) (fun KW hKW => ?_) (ready_cons (i := 8) rfl (by kernel_rfl) (fun KW hKW => ?_) (ready_cons (i := 13) rfl (by kernel_rfl) (fun KW hKW => ?_) (AllReadyH.nil))))
    · go_simp; refine hKW.out _ _ ?_ (fun hHeld => ?_); (focus ((try dsimp only); exact hS.out _ (by repeat (first | exact Below.refl _ _ | assumption | refine bel_drew ?_ | refine bel_drewN ?_ _ | refine bel_alloc ?_ _ | refine bel_trans ?_ (by assumption)))))
      (try simp only [Act.put, List.setIfInBounds_toArray, List.set_cons_zero, List.set_cons_succ])
      exact L0_16 _ (.slice (some ⟨WW.heap.size, 0, none⟩) 0 0) v38 (by repeat (first | exact Below.refl _ _ | assumption | refine bel_drew ?_ | refine bel_drewN ?_ _ | refine bel_alloc ?_ _ | refine bel_trans ?_ (by assumption))) ((Own2.lit (d := 33) ho hb.size (by simp) (own_emptyI WW)).sub (by simp))
    · go_simp; refine hKW.out _ _ ?_ (fun hHeld => ?_); (focus ((try dsimp only); exact hS.out _ (by repeat (first | exact Below.refl _ _ | assumption | refine bel_drew ?_ | refine bel_drewN ?_ _ | refine bel_alloc ?_ _ | refine bel_trans ?_ (by assumption)))))
      (try simp only [Act.put, List.setIfInBounds_toArray, List.set_cons_zero, List.set_cons_succ])
      exact L0_68 _ v38 (.slice (some ⟨WW.heap.size, 0, none⟩) 0 0) (by repeat (first | exact Below.refl _ _ | assumption | refine bel_drew ?_ | refine bel_drewN ?_ _ | refine bel_alloc ?_ _ | refine bel_trans ?_ (by assumption))) ((Own2.lit (d := 40) ho hb.size (by simp) (own_emptyI WW)).sub (by simp))
    · go_simp; refine hKW.out _ _ ?_ (fun hHeld => ?_); (focus ((try dsimp only); exact hS.out _ (by repeat (first | exact Below.refl _ _ | assumption | refine bel_drew ?_ | refine bel_drewN ?_ _ | refine bel_alloc ?_ _ | refine bel_trans ?_ (by assumption)))))
      (try simp only [Act.put, List.setIfInBounds_toArray, List.set_cons_zero, List.set_cons_succ])
      exact L0_613 _ v38 (.slice (some ⟨WW.heap.size, 0, none⟩) 1 1) (by repeat (first | exact Below.refl _ _ | assumption | refine bel_drew ?_ | refine bel_drewN ?_ _ | refine bel_alloc ?_ _ | refine bel_trans ?_ (by assumption))) ((Own2.lit (d := 45) ho hb.size (by simp) (own_oneI2 WW ((j : Int) : Int))).sub (by simp))
  have L0_813 : ∀ (WW : World) (v40 v45 : Value), Below W6.heap.size W6 WW → Own2 W6.heap.size WW [(40, v40, []), (45, v45, [((j : Int) : Int)])] → wpAnyH Try.prog .any OPS Q' (fun W : World => W.cell? ⟨u1.heap.size, 0, none⟩ = some (.slice Ao' n co') ∧ W.cell? ⟨u1.heap.size, 1, none⟩ = some (.slice Ag' n cg') ∧ W.cell? ⟨u1.heap.size, 2, none⟩ = some (.slice Ac' m' cc') ∧ W.cell? ⟨u1.heap.size, 3, none⟩ = some (.int .i64 (fr' : Int)) ∧ W.cell? ⟨w.heap.size, 4, none⟩ = some (.slice An N.length cn) ∧ W.cell? ⟨w.heap.size, 5, none⟩ = some (.slice Ap N.length cp)) 11 #[true, false, true, true, false, true, false, false, true, true, true, false, true, true, false, false, true, true, false, false, false, false] ((a0.put (some 40) v40).put (some 45) v45) WW := by
    intro WW v40 v45 hb ho
    subst hO
    subst ha
    simp only [Act.put, List.setIfInBounds_toArray, List.set_cons_zero, List.set_cons_succ] at L0_1813
    simp only [Act.put, List.setIfInBounds_toArray, List.set_cons_zero, List.set_cons_succ] at L0_6813
    (try simp only [Act.put, List.setIfInBounds_toArray, List.set_cons_zero, List.set_cons_succ])
    refine wpAnyH_ready (rs := [1, 6]) (by kernel_rfl) (by simp) (ready_cons (i := 1) rfl (by kernel_rfl) (fun KW hKW => ?_) (ready_cons (i := 6) rfl (by kernel_rfl) (fun KW hKW => ?_) (AllReadyH.nil)))
    · go_simp; refine hKW.out _ _ ?_ (fun hHeld => ?_); (focus ((try dsimp only); exact hS.out _ (by repeat (first | exact Below.refl _ _ | assumption | refine bel_drew ?_ | refine bel_drewN ?_ _ | refine bel_alloc ?_ _ | refine bel_trans ?_ (by assumption)))))
      (try simp only [Act.put, List.setIfInBounds_toArray, List.set_cons_zero, List.set_cons_succ])
      exact L0_1813 _ (.slice (some ⟨WW.heap.size, 0, none⟩) 0 0) v40 v45 (by repeat (first | exact Below.refl _ _ | assumption | refine bel_drew ?_ | refine bel_drewN ?_ _ | refine bel_alloc ?_ _ | refine bel_trans ?_ (by assumption))) ((Own2.lit (d := 33) ho hb.size (by simp) (own_emptyI WW)).sub (by simp))
    · go_simp; refine hKW.out _ _ ?_ (fun hHeld => ?_); (focus ((try dsimp only); exact hS.out _ (by repeat (first | exact Below.refl _ _ | assumption | refine bel_drew ?_ | refine bel_drewN ?_ _ | refine bel_alloc ?_ _ | refine bel_trans ?_ (by assumption)))))
      (try simp only [Act.put, List.setIfInBounds_toArray, List.set_cons_zero, List.set_cons_succ])
      exact L0_6813 _ (.slice (some ⟨WW.heap.size, 0, none⟩) 1 1) v40 v45 (by repeat (first | exact Below.refl _ _ | assumption | refine bel_drew ?_ | refine bel_drewN ?_ _ | refine bel_alloc ?_ _ | refine bel_trans ?_ (by assumption))) ((Own2.lit (d := 38) ho hb.size (by simp) (own_oneI2 WW (p : Int))).sub (by simp))
  have L0_8 : ∀ (WW : World) (v40 : Value), Below W6.heap.size W6 WW → Own2 W6.heap.size WW [(40, v40, [])] → wpAnyH Try.prog .any OPS Q' (fun W : World => W.cell? ⟨u1.heap.size, 0, none⟩ = some (.slice Ao' n co') ∧ W.cell? ⟨u1.heap.size, 1, none⟩ = some (.slice Ag' n cg') ∧ W.cell? ⟨u1.heap.size, 2, none⟩ = some (.slice Ac' m' cc') ∧ W.cell? ⟨u1.heap.size, 3, none⟩ = some (.int .i64 (fr' : Int)) ∧ W.cell? ⟨w.heap.size, 4, none⟩ = some (.slice An N.length cn) ∧ W.cell? ⟨w.heap.size, 5, none⟩ = some (.slice Ap N.length cp)) 12 #[true, false, true, true, false, true, false, false, true, true, true, false, true, false, false, false, true, true, false, false, false, false] (a0.put (some 40) v40) WW := by
    intro WW v40 hb ho
    subst hO
    subst ha
    simp only [Act.put, List.setIfInBounds_toArray, List.set_cons_zero, List.set_cons_succ] at L0_18
    simp only [Act.put, List.setIfInBounds_toArray, List.set_cons_zero, List.set_cons_succ] at L0_68
    simp only [Act.put, List.setIfInBounds_toArray, List.set_cons_zero, List.set_cons_succ] at L0_813
    (try simp only [Act.put, List.setIfInBounds_toArray, List.set_cons_zero, List.set_cons_succ])
    refine wpAnyH_ready (rs := [1, 6, 13]) (by kernel_rfl) (by simp) (ready_cons (i := 1) rfl (by kernel_rfl) (fun KW hKW => ?_) (ready_cons (i := 6) rfl (by kernel_rfl) (fun KW hKW => ?_) (ready_cons (i := 13) rfl (by kernel_rfl) (fun KW hKW => ?_) (AllReadyH.nil))))
    · go_simp; refine hKW.out _ _ ?_ (fun hHeld => ?_); (focus ((try dsimp only); exact hS.out _ (by repeat (first | exact Below.refl _ _ | assumption | refine bel_drew ?_ | refine bel_drewN ?_ _ | refine bel_alloc ?_ _ | refine bel_trans ?_ (by assumption)))))
      (try simp only [Act.put, List.setIfInBounds_toArray, List.set_cons_zero, List.set_cons_succ])
      exact L0_18 _ (.slice (some ⟨WW.heap.size, 0, none⟩) 0 0) v40 (by repeat (first | exact Below.refl _ _ | assumption | refine bel_drew ?_ | refine bel_drewN ?_ _ | refine bel_alloc ?_ _ | refine bel_trans ?_ (by assumption))) ((Own2.lit (d := 33) ho hb.size (by simp) (own_emptyI WW)).sub (by simp))
    · go_simp; refine hKW.out _ _ ?_ (fun hHeld => ?_); (focus ((try dsimp only); exact hS.out _ (by repeat (first | exact Below.refl _ _ | assumption | refine bel_drew ?_ | refine bel_drewN ?_ _ | refine bel_alloc ?_ _ | refine bel_trans ?_ (by assumption)))))
      (try simp only [Act.put, List.setIfInBounds_toArray, List.set_cons_zero, List.set_cons_succ])
      exact L0_68 _ (.slice (some ⟨WW.heap.size, 0, none⟩) 1 1) v40 (by repeat (first | exact Below.refl _ _ | assumption | refine bel_drew ?_ | refine bel_drewN ?_ _ | refine bel_alloc ?_ _ | refine bel_trans ?_ (by assumption))) ((Own2.lit (d := 38) ho hb.size (by simp) (own_oneI2 WW (p : Int))).sub (by simp))
    · go_simp; refine hKW.out _ _ ?_ (fun hHeld => ?_); (focus ((try dsimp only); exact hS.out _ (by repeat (first | exact Below.refl _ _ | assumption | refine bel_drew ?_ | refine bel_drewN ?_ _ | refine bel_alloc ?_ _ | refine bel_trans ?_ (by assumption)))))
      (try simp only [Act.put, List.setIfInBounds_toArray, List.set_cons_zero, List.set_cons_succ])
      exact L0_813 _ v40 (.slice (some ⟨WW.heap.size, 0, none⟩) 1 1) (by repeat (first | exact Below.refl _ _ | assumption | refine bel_drew ?_ | refine bel_drewN ?_ _ | refine bel_alloc ?_ _ | refine bel_trans ?_ (by assumption))) ((Own2.lit (d := 45) ho hb.size (by simp) (own_oneI2 WW ((j : Int) : Int))).sub (by simp))
  have L0_13 : ∀ (WW : World) (v45 : Value), Below W6.heap.size W6 WW → Own2 W6.heap.size WW [(45, v45, [((j : Int) : Int)])] → wpAnyH Try.prog .any OPS Q' (fun W : World => W.cell? ⟨u1.heap.size, 0, none⟩ = some (.slice Ao' n co') ∧ W.cell? ⟨u1.heap.size, 1, none⟩ = some (.slice Ag' n cg') ∧ W.cell? ⟨u1.heap.size, 2, none⟩ = some (.slice Ac' m' cc') ∧ W.cell? ⟨u1.heap.size, 3, none⟩ = some (.int .i64 (fr' : Int)) ∧ W.cell? ⟨w.heap.size, 4, none⟩ = some (.slice An N.length cn) ∧ W.cell? ⟨w.heap.size, 5, none⟩ = some (.slice Ap N.length cp)) 12 #[true, false, true, true, false, true, false, false, false, true, true, false, true, true, false, false, true, true, false, false, false, false] (a0.put (some 45) v45) WW := by
    intro WW v45 hb ho
    subst hO
    subst ha
    simp only [Act.put, List.setIfInBounds_toArray, List.set_cons_zero, List.set_cons_succ] at L0_113
    simp only [Act.put, List.setIfInBounds_toArray, List.set_cons_zero, List.set_cons_succ] at L0_613
    simp only [Act.put, List.setIfInBounds_toArray, List.set_cons_zero, List.set_cons_succ] at L0_813
    (try simp only [Act.put, List.setIfInBounds_toArray, List.set_cons_zero, List.set_cons_succ])
    refine wpAnyH_ready (rs := [1, 6, 8]) (by kernel_rfl) (by simp) (ready_cons (i := 1) rfl (by kernel_rfl) (fun KW hKW => ?_) (ready_cons (i := 6) rfl (by kernel_rfl) (fun KW hKW => ?_) (ready_cons (i := 8) rfl (by kernel_rfl) (fun KW hKW => ?_) (AllReadyH.nil))))
    · go_simp; refine hKW.out _ _ ?_ (fun hHeld => ?_); (focus ((try dsimp only); exact hS.out _ (by repeat (first | exact Below.refl _ _ | assumption | refine bel_drew ?_ | refine bel_drewN ?_ _ | refine bel_alloc ?_ _ | refine bel_trans ?_ (by assumption)))))
      (try simp only [Act.put, List.setIfInBounds_toArray, List.set_cons_zero, List.set_cons_succ])
      exact L0_113 _ (.slice (some ⟨WW.heap.size, 0, none⟩) 0 0) v45 (by repeat (first | exact Below.refl _ _ | assumption | refine bel_drew ?_ | refine bel_drewN ?_ _ | refine bel_alloc ?_ _ | refine bel_trans ?_ (by assumption))) ((Own2.lit (d := 33) ho hb.size (by simp) (own_emptyI WW)).sub (by simp))
    · go_simp; refine hKW.out _ _ ?_ (fun hHeld => ?_); (focus ((try dsimp only); exact hS.out _ (by repeat (first | exact Below.refl _ _ | assumption | refine bel_drew ?_ | refine bel_drewN ?_ _ | refine bel_alloc ?_ _ | refine bel_trans ?_ (by assumption)))))
      (try simp only [Act.put, List.setIfInBounds_toArray, List.set_cons_zero, List.set_cons_succ])
      exact L0_613 _ (.slice (some ⟨WW.heap.size, 0, none⟩) 1 1) v45 (by repeat (first | exact Below.refl _ _ | assumption | refine bel_drew ?_ | refine bel_drewN ?_ _ | refine bel_alloc ?_ _ | refine bel_trans ?_ (by assumption))) ((Own2.lit (d := 38) ho hb.size (by simp) (own_oneI2 WW (p : Int))).sub (by simp))
    · go_simp; refine hKW.out _ _ ?_ (fun hHeld => ?_); (focus ((try dsimp only); exact hS.out _ (by repeat (first | exact Below.refl _ _ | assumption | refine bel_drew ?_ | refine bel_drewN ?_ _ | refine bel_alloc ?_ _ | refine bel_trans ?_ (by assumption)))))
      (try simp only [Act.put, List.setIfInBounds_toArray, List.set_cons_zero, List.set_cons_succ])
      exact L0_813 _ (.slice (some ⟨WW.heap.size, 0, none⟩) 0 0) v45 (by repeat (first | exact Below.refl _ _ | assumption | refine bel_drew ?_ | refine bel_drewN ?_ _ | refine bel_alloc ?_ _ | refine bel_trans ?_ (by assumption))) ((Own2.lit (d := 40) ho hb.size (by simp) (own_emptyI WW)).sub (by simp))
  have L0_ : ∀ (WW : World), Below W6.heap.size W6 WW → Own2 W6.heap.size WW [] → wpAnyH Try.prog .any OPS Q' (fun W : World => W.cell? ⟨u1.heap.size, 0, none⟩ = some (.slice Ao' n co') ∧ W.cell? ⟨u1.heap.size, 1, none⟩ = some (.slice Ag' n cg') ∧ W.cell? ⟨u1.heap.size, 2, none⟩ = some (.slice Ac' m' cc') ∧ W.cell? ⟨u1.heap.size, 3, none⟩ = some (.int .i64 (fr' : Int)) ∧ W.cell? ⟨w.heap.size, 4, none⟩ = some (.slice An N.length cn) ∧ W.cell? ⟨w.heap.size, 5, none⟩ = some (.slice Ap N.length cp)) 13 #[true, false, true, true, false, true, false, false, false, true, true, false, true, false, false, false, true, true, false, false, false, false] a0 WW := by
    intro WW hb ho
    subst hO
    subst ha
    simp only [Act.put, List.setIfInBounds_toArray, List.set_cons_zero, List.set_cons_succ] at L0_1
    simp only [Act.put, List.setIfInBounds_toArray, List.set_cons_zero, List.set_cons_succ] at L0_6
    simp only [Act.put, List.setIfInBounds_toArray, List.set_cons_zero, List.set_cons_succ] at L0_8
    simp only [Act.put, List.setIfInBounds_toArray, List.set_cons_zero, List.set_cons_succ] at L0_13
    (try simp only [Act.put, List.setIfInBounds_toArray, List.set_cons_zero, List.set_cons_succ])
    refine wpAnyH_ready (rs := [1, 6, 8, 13]) (by kernel_rfl) (by simp) (ready_cons (i := 1) rfl (by kernel_rfl) (fun KW hKW => ?_) (ready_cons (i := 6) rfl (by kernel_rfl) (fun KW hKW => ?_) (ready_cons (i := 8) rfl (by kernel_rfl) (fun KW hKW => ?_) (ready_cons (i := 13) rfl (by kernel_rfl) (fun KW hKW => ?_) (AllReadyH.nil)))))
    · go_simp; refine hKW.out _ _ ?_ (fun hHeld => ?_); (focus ((try dsimp only); exact hS.out _ (by repeat (first | exact Below.refl _ _ | assumption | refine bel_drew ?_ | refine bel_drewN ?_ _ | refine bel_alloc ?_ _ | refine bel_trans ?_ (by assumption)))))
      (try simp only [Act.put, List.setIfInBounds_toArray, List.set_cons_zero, List.set_cons_succ])
      exact L0_1 _ (.slice (some ⟨WW.heap.size, 0, none⟩) 0 0) (by repeat (first | exact Below.refl _ _ | assumption | refine bel_drew ?_ | refine bel_drewN ?_ _ | refine bel_alloc ?_ _ | refine bel_trans ?_ (by assumption))) ((Own2.lit (d := 33) ho hb.size (by simp) (own_emptyI WW)).sub (by simp))
    · go_simp; refine hKW.out _ _ ?_ (fun hHeld => ?_); (focus ((try dsimp only); exact hS.out _ (by repeat (first | exact Below.refl _ _ | assumption | refine bel_drew ?_ | refine bel_drewN ?_ _ | refine bel_alloc ?_ _ | refine bel_trans ?_ (by assumption)))))
      (try simp only [Act.put, List.setIfInBounds_toArray, List.set_cons_zero, List.set_cons_succ])
      exact L0_6 _ (.slice (some ⟨WW.heap.size, 0, none⟩) 1 1) (by repeat (first | exact Below.refl _ _ | assumption | refine bel_drew ?_ | refine bel_drewN ?_ _ | refine bel_alloc ?_ _ | refine bel_trans ?_ (by assumption))) ((Own2.lit (d := 38) ho hb.size (by simp) (own_oneI2 WW (p : Int))).sub (by simp))
    · go_simp; refine hKW.out _ _ ?_ (fun hHeld => ?_); (focus ((try dsimp only); exact hS.out _ (by repeat (first | exact Below.refl _ _ | assumption | refine bel_drew ?_ | refine bel_drewN ?_ _ | refine bel_alloc ?_ _ | refine bel_trans ?_ (by assumption)))))
      (try simp only [Act.put, List.setIfInBounds_toArray, List.set_cons_zero, List.set_cons_succ])
      exact L0_8 _ (.slice (some ⟨WW.heap.size, 0, none⟩) 0 0) (by repeat (first | exact Below.refl _ _ | assumption | refine bel_drew ?_ | refine bel_drewN ?_ _ | refine bel_alloc ?_ _ | refine bel_trans ?_ (by assumption))) ((Own2.lit (d := 40) ho hb.size (by simp) (own_emptyI WW)).sub (by simp))
    · go_simp; refine hKW.out _ _ ?_ (fun hHeld => ?_); (focus ((try dsimp only); exact hS.out _ (by repeat (first | exact Below.refl _ _ | assumption | refine bel_drew ?_ | refine bel_drewN ?_ _ | refine bel_alloc ?_ _ | refine bel_trans ?_ (by assumption)))))
      (try simp only [Act.put, List.setIfInBounds_toArray, List.set_cons_zero, List.set_cons_succ])
      exact L0_13 _ (.slice (some ⟨WW.heap.size, 0, none⟩) 1 1) (by repeat (first | exact Below.refl _ _ | assumption | refine bel_drew ?_ | refine bel_drewN ?_ _ | refine bel_alloc ?_ _ | refine bel_trans ?_ (by assumption))) ((Own2.lit (d := 45) ho hb.size (by simp) (own_oneI2 WW ((j : Int) : Int))).sub (by simp))
  exact L0_ _ (by repeat (first | exact Below.refl _ _ | assumption | refine bel_drew ?_ | refine bel_drewN ?_ _ | refine bel_alloc ?_ _ | refine bel_trans ?_ (by assumption))) (Own2.nil _ _)
end Go.Proofs.Ytdhcmnbajkpjiaa
/-
  The reference's forest in memory: what Add refuses.
-/
namespace Go.Proofs.Ytdhcmnbajkpjiaa
open Go.RowKit
open Go.Maps
set_option linter.unusedVariables false
set_option linter.unusedSimpArgs false
attribute [local go_sem] drewN_alloc drewN_setCell

variable {P : Nat → Prop} {w w' : World} {V : Value} {n : Nat} {g : List Int} {O cl : List Nat} {fr : Nat} {N : List Nat} {up : List Int}
set_option maxRecDepth 100000 in
set_option maxHeartbeats 2000000 in
theorem ref37_Add_none_root (hp : pickP cl fr n = none) (h : RefF P w V n g O cl fr N up) :
    Calls Try.prog 42 #[V, .int .i64 (-1)] w fun e w' => e = .returned (.tuple #[V, .int .i64 0, .int .i64 0, .bool false]) ∧ Below w.heap.size w w' := by
  obtain ⟨Ao, co, Ag, cg, Ac, cc, An, cn, Ap, cp, rfl, h1, h2, h3⟩ := h
  have K2 : Hid (∀ W, Below w.heap.size w W → Calls Try.prog 117 #[.agg #[.slice Ao n co, .slice Ag n cg, .slice Ac cl.length cc, .int .i64 (fr : Int)]] W fun e w' => e = .returned (.tuple #[.agg #[.slice Ao n co, .slice Ag n cg, .slice Ac cl.length cc, .int .i64 (fr : Int)], .int .i64 0, .int .i64 0, .bool false]) ∧ Below W.heap.size W w') := Lib.hid (fun W hW => ref06_OpenOne_no (h1.keep hW) hp)
  clear hp
  obtain ⟨m, hm⟩ : ∃ m, cl.length = m := ⟨_, rfl⟩
  rw [hm] at K2 ⊢
  clear h1 h2 h3 hm
  go_enter Try.func42, Try.ntmps42
  go_upto_region 1 with (fail)
  refine region_name ?_
  rintro W0 hW0
  have r0 : RowAt W0 w.heap.size 58 [.slice Ao n co, .slice Ag n cg, .slice Ac m cc, .int .i64 (fr : Int), .slice An N.length cn, .slice Ap N.length cp] := by
    rw [hW0]; exact (RowAt.new w 58 _).alloc _
  have s0 : RowAt W0 (w.heap.size + 1) 58 [.slice none 0 0, .slice none 0 0, .slice none 0 0, .int .i64 0, .slice none 0 0, .slice none 0 0] := by
    rw [hW0]
    have := RowAt.new (w.alloc (.cells #[.slice Ao n co, .slice Ag n cg, .slice Ac m cc, .int .i64 (fr : Int), .slice An N.length cn, .slice Ap N.length cp] 58)) 58 [.slice none 0 0, .slice none 0 0, .slice none 0 0, .int .i64 0, .slice none 0 0, .slice none 0 0]
    simpa using this
  have b0 : Below w.heap.size w W0 := by rw [hW0]; exact (by repeat (first | exact Below.refl _ _ | assumption | refine bel_drew ?_ | refine bel_drewN ?_ _ | refine bel_alloc ?_ _ | refine bel_set ?_ (by first | (dsimp only; omega) | (simp; done) | (simp; omega)) _ | refine bel_trans ?_ (by assumption)))
  have z0 : w.heap.size + 2 ≤ W0.heap.size := by rw [hW0]; simp
  clear hW0
  have c0 : W0.cell? ⟨w.heap.size, 0, none⟩ = some (.slice Ao n co) := by rw [r0.cell]; rfl
  have c1 : W0.cell? ⟨w.heap.size, 1, none⟩ = some (.slice Ag n cg) := by rw [r0.cell]; rfl
  have c2 : W0.cell? ⟨w.heap.size, 2, none⟩ = some (.slice Ac m cc) := by rw [r0.cell]; rfl
  have c3 : W0.cell? ⟨w.heap.size, 3, none⟩ = some (.int .i64 (fr : Int)) := by rw [r0.cell]; rfl
  have c4 : W0.cell? ⟨w.heap.size, 4, none⟩ = some (.slice An N.length cn) := by rw [r0.cell]; rfl
  have c5 : W0.cell? ⟨w.heap.size, 5, none⟩ = some (.slice Ap N.length cp) := by rw [r0.cell]; rfl
  go_wp2_with fail
  refine (K2.out _ b0).mono ?_
  rintro e w1 ⟨rfl, hb⟩
  have r1 := r0.keep hb
  have s1 := s0.keep hb
  have b1 := bel_trans b0 hb
  have z1 := Nat.le_trans z0 hb.size
  clear c0 c1 c2 c3 c4 c5 r0 s0 b0 z0 hb
  have c0 : w1.cell? ⟨w.heap.size, 0, none⟩ = some (.slice Ao n co) := by rw [r1.cell]; rfl
  have c1 : w1.cell? ⟨w.heap.size, 1, none⟩ = some (.slice Ag n cg) := by rw [r1.cell]; rfl
  have c2 : w1.cell? ⟨w.heap.size, 2, none⟩ = some (.slice Ac m cc) := by rw [r1.cell]; rfl
  have c3 : w1.cell? ⟨w.heap.size, 3, none⟩ = some (.int .i64 (fr : Int)) := by rw [r1.cell]; rfl
  have c4 : w1.cell? ⟨w.heap.size, 4, none⟩ = some (.slice An N.length cn) := by rw [r1.cell]; rfl
  have c5 : w1.cell? ⟨w.heap.size, 5, none⟩ = some (.slice Ap N.length cp) := by rw [r1.cell]; rfl
  go_upto_region 5 with (fail)
  refine region_name ?_
  rintro W5 hW5
  have r9 : RowAt W5 w.heap.size 58 [.slice Ao n co, .slice Ag n cg, .slice Ac m cc, .int .i64 (fr : Int), .slice An N.length cn, .slice Ap N.length cp] := by rw [hW5]; exact r1.alloc _
  have s9 : RowAt W5 (w.heap.size + 1) 58 [.slice none 0 0, .slice none 0 0, .slice none 0 0, .int .i64 0, .slice none 0 0, .slice none 0 0] := by rw [hW5]; exact s1.alloc _
  have b9 : Below w.heap.size w W5 := by rw [hW5]; exact bel_alloc b1 _
  clear hW5 c0 c1 c2 c3 c4 c5 r1 s1 b1
  have c0 : W5.cell? ⟨w.heap.size, 0, none⟩ = some (.slice Ao n co) := by rw [r9.cell]; rfl
  have c1 : W5.cell? ⟨w.heap.size, 1, none⟩ = some (.slice Ag n cg) := by rw [r9.cell]; rfl
  have c2 : W5.cell? ⟨w.heap.size, 2, none⟩ = some (.slice Ac m cc) := by rw [r9.cell]; rfl
  have c3 : W5.cell? ⟨w.heap.size, 3, none⟩ = some (.int .i64 (fr : Int)) := by rw [r9.cell]; rfl
  have c4 : W5.cell? ⟨w.heap.size, 4, none⟩ = some (.slice An N.length cn) := by rw [r9.cell]; rfl
  have c5 : W5.cell? ⟨w.heap.size, 5, none⟩ = some (.slice Ap N.length cp) := by rw [r9.cell]; rfl
  have e0 := (s9.cell 0).trans rfl
  have e1 := (s9.cell 1).trans rfl
  have e2 := (s9.cell 2).trans rfl
  have e3 := (s9.cell 3).trans rfl
  have e4 := (s9.cell 4).trans rfl
  have e5 := (s9.cell 5).trans rfl
  have f0 := s9.frozen 0
  have f1 := s9.frozen 1
  have f2 := s9.frozen 2
  have f3 := s9.frozen 3
  have f4 := s9.frozen 4
  have f5 := s9.frozen 5
  have B := Lib.hid b9
  clear r9 s9 b9
  go_wp2_with fail
  refine bodyPost_ret (v := .tuple #[.agg #[.slice Ao n co, .slice Ag n cg, .slice Ac m cc, .int .i64 (fr : Int), .slice An N.length cn, .slice Ap N.length cp], .int .i64 0, .int .i64 0, .bool false]) (by simp [results, Try.results42, go_sem, c0, c1, c2, c3, c4, c5, e0, e1, e2, e3, e4, e5]) rfl ?_
  exact ⟨rfl, set6_below B.out (by omega) _ _ _ _ _ _⟩
set_option maxRecDepth 100000 in
set_option maxHeartbeats 2000000 in
theorem ref37_Add_none_kid (j : Nat) (hj : j ∈ N) (hp : pickP cl fr n = none) (h : RefF P w V n g O cl fr N up) :
    Calls Try.prog 42 #[V, .int .i64 (j : Int)] w fun e w' => e = .returned (.tuple #[V, .int .i64 0, .int .i64 0, .bool false]) ∧ Below w.heap.size w w' := by
  obtain ⟨Ao, co, Ag, cg, Ac, cc, An, cn, Ap, cp, rfl, h1, h2, h3⟩ := h
  obtain ⟨kj, hkj⟩ : ∃ k, N.idxOf j = k := ⟨_, rfl⟩
  have hpl : PC.place N (j : Int) = (kj : Int) := by unfold PC.place; rw [if_pos ⟨by omega, by simpa using hj⟩, ← hkj]; simp
  have KA : Hid (∀ W, Below w.heap.size w W → Calls Try.prog 110 #[.agg #[.slice Ao n co, .slice Ag n cg, .slice Ac cl.length cc, .int .i64 (fr : Int), .slice An N.length cn, .slice Ap N.length cp], .int .i64 (j : Int)] W fun e w' => e = .returned (.int .i64 (kj : Int)) ∧ Below W.heap.size W w') := Lib.hid (fun W hW => by
    have := ref37_At (P := P) (g := g) (O := O) (up := up) (j : Int) (RefF.keep ⟨Ao, co, Ag, cg, Ac, cc, An, cn, Ap, cp, rfl, h1, h2, h3⟩ hW)
    rwa [hpl] at this)
  have j1 : ((j : Int) != -1) = true := bne_iff_ne.2 (by omega)
  have j2 : decide ((kj : Int) < (0 : Int)) = false := decide_eq_false (by omega)
  have j3 : ¬ (kj : Int) < (0 : Int) := by omega
  have j4 : ¬ (j : Int) = -1 := by omega
  clear hj hkj hpl
  have K2 : Hid (∀ W, Below w.heap.size w W → Calls Try.prog 117 #[.agg #[.slice Ao n co, .slice Ag n cg, .slice Ac cl.length cc, .int .i64 (fr : Int)]] W fun e w' => e = .returned (.tuple #[.agg #[.slice Ao n co, .slice Ag n cg, .slice Ac cl.length cc, .int .i64 (fr : Int)], .int .i64 0, .int .i64 0, .bool false]) ∧ Below W.heap.size W w') := Lib.hid (fun W hW => ref06_OpenOne_no (h1.keep hW) hp)
  clear hp
  obtain ⟨m, hm⟩ : ∃ m, cl.length = m := ⟨_, rfl⟩
  rw [hm] at KA K2 ⊢
  clear h1 h2 h3 hm
  go_enter Try.func42, Try.ntmps42
  go_upto_region 1 with (fail)
  refine region_name ?_
  rintro W0 hW0
  have r0 : RowAt W0 w.heap.size 58 [.slice Ao n co, .slice Ag n cg, .slice Ac m cc, .int .i64 (fr : Int), .slice An N.length cn, .slice Ap N.length cp] := by
    rw [hW0]; exact (RowAt.new w 58 _).alloc _
  have s0 : RowAt W0 (w.heap.size + 1) 58 [.slice none 0 0, .slice none 0 0, .slice none 0 0, .int .i64 0, .slice none 0 0, .slice none 0 0] := by
    rw [hW0]
    have := RowAt.new (w.alloc (.cells #[.slice Ao n co, .slice Ag n cg, .slice Ac m cc, .int .i64 (fr : Int), .slice An N.length cn, .slice Ap N.length cp] 58)) 58 [.slice none 0 0, .slice none 0 0, .slice none 0 0, .int .i64 0, .slice none 0 0, .slice none 0 0]
    simpa using this
  have b0 : Below w.heap.size w W0 := by rw [hW0]; exact (by repeat (first | exact Below.refl _ _ | assumption | refine bel_drew ?_ | refine bel_drewN ?_ _ | refine bel_alloc ?_ _ | refine bel_set ?_ (by first | (dsimp only; omega) | (simp; done) | (simp; omega)) _ | refine bel_trans ?_ (by assumption)))
  have z0 : w.heap.size + 2 ≤ W0.heap.size := by rw [hW0]; simp
  clear hW0
  have c0 : W0.cell? ⟨w.heap.size, 0, none⟩ = some (.slice Ao n co) := by rw [r0.cell]; rfl
  have c1 : W0.cell? ⟨w.heap.size, 1, none⟩ = some (.slice Ag n cg) := by rw [r0.cell]; rfl
  have c2 : W0.cell? ⟨w.heap.size, 2, none⟩ = some (.slice Ac m cc) := by rw [r0.cell]; rfl
  have c3 : W0.cell? ⟨w.heap.size, 3, none⟩ = some (.int .i64 (fr : Int)) := by rw [r0.cell]; rfl
  have c4 : W0.cell? ⟨w.heap.size, 4, none⟩ = some (.slice An N.length cn) := by rw [r0.cell]; rfl
  have c5 : W0.cell? ⟨w.heap.size, 5, none⟩ = some (.slice Ap N.length cp) := by rw [r0.cell]; rfl
  go_wp2_with fail
  refine (KA.out _ b0).mono ?_
  rintro e w1 ⟨rfl, hb⟩
  have r1 := r0.keep hb
  have s1 := s0.keep hb
  have b1 := bel_trans b0 hb
  have z1 := Nat.le_trans z0 hb.size
  clear c0 c1 c2 c3 c4 c5 r0 s0 b0 z0 hb
  have c0 : w1.cell? ⟨w.heap.size, 0, none⟩ = some (.slice Ao n co) := by rw [r1.cell]; rfl
  have c1 : w1.cell? ⟨w.heap.size, 1, none⟩ = some (.slice Ag n cg) := by rw [r1.cell]; rfl
  have c2 : w1.cell? ⟨w.heap.size, 2, none⟩ = some (.slice Ac m cc) := by rw [r1.cell]; rfl
  have c3 : w1.cell? ⟨w.heap.size, 3, none⟩ = some (.int .i64 (fr : Int)) := by rw [r1.cell]; rfl
  have c4 : w1.cell? ⟨w.heap.size, 4, none⟩ = some (.slice An N.length cn) := by rw [r1.cell]; rfl
  have c5 : w1.cell? ⟨w.heap.size, 5, none⟩ = some (.slice Ap N.length cp) := by rw [r1.cell]; rfl
  go_wp2_with fail
  refine (K2.out _ b1).mono ?_
  rintro e w2 ⟨rfl, hb⟩
  have r2 := r1.keep hb
  have s2 := s1.keep hb
  have b2 := bel_trans b1 hb
  have z2 := Nat.le_trans z1 hb.size
  clear c0 c1 c2 c3 c4 c5 r1 s1 b1 z1 hb
  have c0 : w2.cell? ⟨w.heap.size, 0, none⟩ = some (.slice Ao n co) := by rw [r2.cell]; rfl
  have c1 : w2.cell? ⟨w.heap.size, 1, none⟩ = some (.slice Ag n cg) := by rw [r2.cell]; rfl
  have c2 : w2.cell? ⟨w.heap.size, 2, none⟩ = some (.slice Ac m cc) := by rw [r2.cell]; rfl
  have c3 : w2.cell? ⟨w.heap.size, 3, none⟩ = some (.int .i64 (fr : Int)) := by rw [r2.cell]; rfl
  have c4 : w2.cell? ⟨w.heap.size, 4, none⟩ = some (.slice An N.length cn) := by rw [r2.cell]; rfl
  have c5 : w2.cell? ⟨w.heap.size, 5, none⟩ = some (.slice Ap N.length cp) := by rw [r2.cell]; rfl
  go_upto_region 5 with (fail)
  refine region_name ?_
  rintro W5 hW5
  have r9 : RowAt W5 w.heap.size 58 [.slice Ao n co, .slice Ag n cg, .slice Ac m cc, .int .i64 (fr : Int), .slice An N.length cn, .slice Ap N.length cp] := by rw [hW5]; exact r2.alloc _
  have s9 : RowAt W5 (w.heap.size + 1) 58 [.slice none 0 0, .slice none 0 0, .slice none 0 0, .int .i64 0, .slice none 0 0, .slice none 0 0] := by rw [hW5]; exact s2.alloc _
  have b9 : Below w.heap.size w W5 := by rw [hW5]; exact bel_alloc b2 _
  clear hW5 c0 c1 c2 c3 c4 c5 r2 s2 b2
  have c0 : W5.cell? ⟨w.heap.size, 0, none⟩ = some (.slice Ao n co) := by rw [r9.cell]; rfl
  have c1 : W5.cell? ⟨w.heap.size, 1, none⟩ = some (.slice Ag n cg) := by rw [r9.cell]; rfl
  have c2 : W5.cell? ⟨w.heap.size, 2, none⟩ = some (.slice Ac m cc) := by rw [r9.cell]; rfl
  have c3 : W5.cell? ⟨w.heap.size, 3, none⟩ = some (.int .i64 (fr : Int)) := by rw [r9.cell]; rfl
  have c4 : W5.cell? ⟨w.heap.size, 4, none⟩ = some (.slice An N.length cn) := by rw [r9.cell]; rfl
  have c5 : W5.cell? ⟨w.heap.size, 5, none⟩ = some (.slice Ap N.length cp) := by rw [r9.cell]; rfl
  have e0 := (s9.cell 0).trans rfl
  have e1 := (s9.cell 1).trans rfl
  have e2 := (s9.cell 2).trans rfl
  have e3 := (s9.cell 3).trans rfl
  have e4 := (s9.cell 4).trans rfl
  have e5 := (s9.cell 5).trans rfl
  have f0 := s9.frozen 0
  have f1 := s9.frozen 1
  have f2 := s9.frozen 2
  have f3 := s9.frozen 3
  have f4 := s9.frozen 4
  have f5 := s9.frozen 5
  have B := Lib.hid b9
  clear r9 s9 b9
  go_wp2_with fail
  refine bodyPost_ret (v := .tuple #[.agg #[.slice Ao n co, .slice Ag n cg, .slice Ac m cc, .int .i64 (fr : Int), .slice An N.length cn, .slice Ap N.length cp], .int .i64 0, .int .i64 0, .bool false]) (by simp [results, Try.results42, go_sem, c0, c1, c2, c3, c4, c5, e0, e1, e2, e3, e4, e5]) rfl ?_
  exact ⟨rfl, set6_below B.out (by omega) _ _ _ _ _ _⟩
set_option maxRecDepth 100000 in
set_option maxHeartbeats 2000000 in
theorem ref37_Add_bad (q : Int) (hq1 : q ≠ -1) (hq : PC.place N q = -1) (h : RefF P w V n g O cl fr N up) :
    Calls Try.prog 42 #[V, .int .i64 q] w fun e w' => e = .returned (.tuple #[V, .int .i64 0, .int .i64 0, .bool false]) ∧ Below w.heap.size w w' := by
  obtain ⟨Ao, co, Ag, cg, Ac, cc, An, cn, Ap, cp, rfl, h1, h2, h3⟩ := h
  have KA : Hid (∀ W, Below w.heap.size w W → Calls Try.prog 110 #[.agg #[.slice Ao n co, .slice Ag n cg, .slice Ac cl.length cc, .int .i64 (fr : Int), .slice An N.length cn, .slice Ap N.length cp], .int .i64 q] W fun e w' => e = .returned (.int .i64 (-1)) ∧ Below W.heap.size W w') := Lib.hid (fun W hW => by
    have := ref37_At (P := P) (g := g) (O := O) (up := up) q (RefF.keep ⟨Ao, co, Ag, cg, Ac, cc, An, cn, Ap, cp, rfl, h1, h2, h3⟩ hW)
    rwa [hq] at this)
  have j1 : (q != -1) = true := bne_iff_ne.2 hq1
  clear hq
  obtain ⟨m, hm⟩ : ∃ m, cl.length = m := ⟨_, rfl⟩
  rw [hm] at KA ⊢
  clear h1 h2 h3 hm
  go_enter Try.func42, Try.ntmps42
  go_upto_region 1 with (fail)
  refine region_name ?_
  rintro W0 hW0
  have r0 : RowAt W0 w.heap.size 58 [.slice Ao n co, .slice Ag n cg, .slice Ac m cc, .int .i64 (fr : Int), .slice An N.length cn, .slice Ap N.length cp] := by
    rw [hW0]; exact (RowAt.new w 58 _).alloc _
  have s0 : RowAt W0 (w.heap.size + 1) 58 [.slice none 0 0, .slice none 0 0, .slice none 0 0, .int .i64 0, .slice none 0 0, .slice none 0 0] := by
    rw [hW0]
    have := RowAt.new (w.alloc (.cells #[.slice Ao n co, .slice Ag n cg, .slice Ac m cc, .int .i64 (fr : Int), .slice An N.length cn, .slice Ap N.length cp] 58)) 58 [.slice none 0 0, .slice none 0 0, .slice none 0 0, .int .i64 0, .slice none 0 0, .slice none 0 0]
    simpa using this
  have b0 : Below w.heap.size w W0 := by rw [hW0]; exact (by repeat (first | exact Below.refl _ _ | assumption | refine bel_drew ?_ | refine bel_drewN ?_ _ | refine bel_alloc ?_ _ | refine bel_set ?_ (by first | (dsimp only; omega) | (simp; done) | (simp; omega)) _ | refine bel_trans ?_ (by assumption)))
  have z0 : w.heap.size + 2 ≤ W0.heap.size := by rw [hW0]; simp
  clear hW0
  have c0 : W0.cell? ⟨w.heap.size, 0, none⟩ = some (.slice Ao n co) := by rw [r0.cell]; rfl
  have c1 : W0.cell? ⟨w.heap.size, 1, none⟩ = some (.slice Ag n cg) := by rw [r0.cell]; rfl
  have c2 : W0.cell? ⟨w.heap.size, 2, none⟩ = some (.slice Ac m cc) := by rw [r0.cell]; rfl
  have c3 : W0.cell? ⟨w.heap.size, 3, none⟩ = some (.int .i64 (fr : Int)) := by rw [r0.cell]; rfl
  have c4 : W0.cell? ⟨w.heap.size, 4, none⟩ = some (.slice An N.length cn) := by rw [r0.cell]; rfl
  have c5 : W0.cell? ⟨w.heap.size, 5, none⟩ = some (.slice Ap N.length cp) := by rw [r0.cell]; rfl
  go_wp2_with fail
  refine (KA.out _ b0).mono ?_
  rintro e w1 ⟨rfl, hb⟩
  have r1 := r0.keep hb
  have s1 := s0.keep hb
  have b1 := bel_trans b0 hb
  have z1 := Nat.le_trans z0 hb.size
  clear c0 c1 c2 c3 c4 c5 r0 s0 b0 z0 hb
  have c0 : w1.cell? ⟨w.heap.size, 0, none⟩ = some (.slice Ao n co) := by rw [r1.cell]; rfl
  have c1 : w1.cell? ⟨w.heap.size, 1, none⟩ = some (.slice Ag n cg) := by rw [r1.cell]; rfl
  have c2 : w1.cell? ⟨w.heap.size, 2, none⟩ = some (.slice Ac m cc) := by rw [r1.cell]; rfl
  have c3 : w1.cell? ⟨w.heap.size, 3, none⟩ = some (.int .i64 (fr : Int)) := by rw [r1.cell]; rfl
  have c4 : w1.cell? ⟨w.heap.size, 4, none⟩ = some (.slice An N.length cn) := by rw [r1.cell]; rfl
  have c5 : w1.cell? ⟨w.heap.size, 5, none⟩ = some (.slice Ap N.length cp) := by rw [r1.cell]; rfl
  have e0 := (s1.cell 0).trans rfl
  have e1 := (s1.cell 1).trans rfl
  have e2 := (s1.cell 2).trans rfl
  have e3 := (s1.cell 3).trans rfl
  have e4 := (s1.cell 4).trans rfl
  have e5 := (s1.cell 5).trans rfl
  have f0 := s1.frozen 0
  have f1 := s1.frozen 1
  have f2 := s1.frozen 2
  have f3 := s1.frozen 3
  have f4 := s1.frozen 4
  have f5 := s1.frozen 5
  have B := Lib.hid b1
  clear r1 s1 b1
  go_wp2_with fail
  refine bodyPost_ret (v := .tuple #[.agg #[.slice Ao n co, .slice Ag n cg, .slice Ac m cc, .int .i64 (fr : Int), .slice An N.length cn, .slice Ap N.length cp], .int .i64 0, .int .i64 0, .bool false]) (by simp [results, Try.results42, go_sem, c0, c1, c2, c3, c4, c5, e0, e1, e2, e3, e4, e5]) rfl ?_
  exact ⟨rfl, set6_below B.out (by omega) _ _ _ _ _ _⟩
end Go.Proofs.Ytdhcmnbajkpjiaa
/-
  Chapter 37: the reference's calls and the forest's go together.
-/
namespace Go.Proofs.Ytdhcmnbajkpjiaa
open Go.RowKit
open Go.Maps
set_option linter.unusedVariables false
set_option linter.unusedSimpArgs false
attribute [local go_sem] drewN_alloc drewN_setCell

variable {P : Nat → Prop} {wa w w' : World} {V : Value} {n : Nat} {own own' : Nat → Prop} {Fb rb : Nat} {S : FSt} {N : List Nat}
theorem place_lt {N : List Nat} {x : Int} (h : ¬ 0 ≤ PC.place N x) : PC.place N x = -1 := by
  unfold PC.place at h ⊢
  split at h
  · omega
  · rename_i hh; rw [if_neg hh]
theorem law37_same (x y : Int) (hx : BdI x) (h : ForestOver wa w own Fb n S) (hr : RefF P w V n S.g S.O S.cl S.fr N S.up) (rel : NRel n S N) (hN : N.length ≤ 4096) :
    Calls Try.prog 43 #[.pointer (some ⟨Fb, 0, none⟩), V, .int .i64 x, .int .i64 y] w fun e w' => e = .returned (.bool true) ∧ Below w.heap.size w w' := by
  by_cases h0 : 0 ≤ PC.place N x
  · exact law37_same_yes x y hx h0 h hr rel hN
  · exact law37_same_no x y hx (place_lt h0) h hr rel hN
theorem NodeAt.of_blocks {B Fb Sb Gb Mb Pb C Nb Lb : Nat} {v : Value} {g up : List Int} {O cl : List Nat} {fr : Nat} {R : Nat → List Nat} (h : NodeAt B w Fb Sb Gb Mb Pb C Nb Lb n v g up O cl fr R)
    (e : ∀ k, (k = Fb ∨ k = Sb ∨ k = Gb ∨ k = Mb ∨ k = Pb ∨ k = C ∨ k = Nb ∨ k = Lb ∨ v.ownBlock = some k) → w'.heap[k]? = w.heap[k]?) (hs : w.heap.size ≤ w'.heap.size) : NodeAt B w' Fb Sb Gb Mb Pb C Nb Lb n v g up O cl fr R :=
  ⟨h.row.of_block (e _ (.inl rfl)), h.par.of_block (e _ (.inr (.inr (.inr (.inr (.inl rfl)))))), h.ulen, h.sl.of_blocks (fun k _ hk => by
    rcases hk with rfl | rfl | rfl | hk
    · exact e _ (.inr (.inl rfl))
    · exact e _ (.inr (.inr (.inl rfl)))
    · exact e _ (.inr (.inr (.inr (.inl rfl))))
    · exact e _ (.inr (.inr (.inr (.inr (.inr (.inr (.inr (.inr hk)))))))) ), h.ch.of_blocks (fun k hk => by
    rcases hk with rfl | rfl | rfl
    · exact e _ (.inr (.inr (.inr (.inr (.inr (.inl rfl))))))
    · exact e _ (.inr (.inr (.inr (.inr (.inr (.inr (.inl rfl)))))))
    · exact e _ (.inr (.inr (.inr (.inr (.inr (.inr (.inr (.inl rfl)))))))) ), h.ne, h.lt, Nat.le_trans h.bw hs⟩
theorem ForestOver.of_own (h : ForestOver wa w own Fb n S) (hb : ∀ k, own k → w'.heap[k]? = w.heap[k]?) (hs : w.heap.size ≤ w'.heap.size) (hB : Below wa.heap.size wa w') : ForestOver wa w' own Fb n S := by
  obtain ⟨⟨B, Sb, Gb, Mb, Pb, C, Nb, Lb, v, h1, ⟨o1, o2, o3, o4, o5, o6, o7, o8⟩, h3⟩, h4, h5, h6⟩ := h
  refine ⟨⟨B, Sb, Gb, Mb, Pb, C, Nb, Lb, v, h1.of_blocks (fun k hk => ?_) hs, ⟨o1, o2, o3, o4, o5, o6, o7, o8⟩, h3⟩, h4, fun k hk => ⟨(h5 k hk).1, Nat.lt_of_lt_of_le (h5 k hk).2 hs⟩, hB⟩
  rcases hk with rfl | rfl | rfl | rfl | rfl | rfl | rfl | rfl | hk
  · exact hb _ o1
  · exact hb _ o2
  · exact hb _ o3
  · exact hb _ o4
  · exact hb _ o5
  · exact hb _ o6
  · exact hb _ o7
  · exact hb _ o8
  · exact hb _ (h3 k hk)
theorem ForestOver.ulen (h : ForestOver wa w own Fb n S) : S.up.length = n := by
  obtain ⟨B, Sb, Gb, Mb, Pb, C, Nb, Lb, v, h1, _⟩ := h.ex
  exact h1.ulen
/-- The reference's forest, and it says the same as the state. -/
def RefIs (P : Nat → Prop) (w : World) (V : Value) (n : Nat) (S : FSt) (N : List Nat) : Prop := RefF P w V n S.g S.O S.cl S.fr N S.up ∧ NRel n S N
theorem RefIs.keep (h : RefIs P w V n S N) (hb : Below w.heap.size w w') : RefIs P w' V n S N := ⟨h.1.keep hb, h.2⟩
/-- Behind a call of the forest the reference's memory is as it was. -/
theorem RefIs.step (h : RefIs (fun b => ¬ own b ∧ b ≠ rb) w V n S N) (hc : Chg own w w') (ho : ∀ k, own' k → own k ∨ w.heap.size ≤ k) : RefF (fun b => ¬ own' b ∧ b ≠ rb) w' V n S.g S.O S.cl S.fr N S.up := by
  refine (h.1.mono (fun b hb hP => ?_) : RefF (fun b => ¬ own b ∧ b ≠ rb ∧ ¬ own' b) w V n S.g S.O S.cl S.fr N S.up).blocks hc.size (fun b hb hP => hc.block b hb hP.1) |>.mono (fun b _ hP => ⟨hP.2.2, hP.2.1⟩)
  refine ⟨hP.1, hP.2, fun hh => ?_⟩
  rcases ho b hh with h1 | h1
  · exact hP.1 h1
  · omega
def FSt.tp (S : FSt) (n : Nat) : Int := match pickP S.cl S.fr n with | none => 0 | some (p, _, _) => (p : Int)
def FSt.tg (S : FSt) (n : Nat) : Int := match pickP S.cl S.fr n with | none => 0 | some (p, _, _) => S.g.getD p 0
def FSt.tb (S : FSt) (n : Nat) : Bool := match pickP S.cl S.fr n with | none => false | some _ => true
theorem told_eq (S : FSt) (n : Nat) : S.told n = .tuple #[.int .i64 (S.tp n), .int .i64 (S.tg n), .bool (S.tb n)] := by
  unfold FSt.told FSt.tp FSt.tg FSt.tb
  rcases pickP S.cl S.fr n with _ | ⟨p, cl', fr'⟩ <;> rfl
theorem NRel.le (h : NRel n S N) (hi : FI n S.up S.O S.cl S.fr S.R) : N.length ≤ 4096 := by
  have := h.len hi
  have := hi.s.o_len
  have := hi.n1
  omega
/-- What the reference's Add hands back. -/
def AddIs (P : Nat → Prop) (n : Nat) (S S' : FSt) (w : World) (e : Ending) (w' : World) : Prop :=
  ∃ V' N', e = .returned (.tuple #[V', .int .i64 (S.tp n), .int .i64 (S.tg n), .bool (S.tb n)]) ∧ RefIs P w' V' n S' N' ∧ Below w.heap.size w w'
theorem refAdd_root (hi : FI n S.up S.O S.cl S.fr S.R) (hul : S.up.length = n) (hP : ∀ b, w.heap.size ≤ b → P b) (h : RefIs P w V n S N) :
    Calls Try.prog 42 #[V, .int .i64 (-1)] w (AddIs P n S (S.add n n (-1)) w) := by
  have hl := h.2.le hi
  unfold AddIs FSt.tp FSt.tg FSt.tb
  rcases hp : pickP S.cl S.fr n with _ | ⟨p, cl', fr'⟩
  · refine (ref37_Add_none_root hp h.1).mono ?_
    rintro e w' ⟨rfl, hb⟩
    have e2 : S.add n n (-1) = S := by unfold FSt.add; rw [hp]
    rw [e2]
    exact ⟨V, N, rfl, h.keep hb, hb⟩
  · have hno := (hi.s.pick hp).2.1
    refine (ref37_Add_root hp hi.s hi.n1 hl (fun hm => hno ((h.2.mem p).1 hm)) hul hP h.1).mono ?_
    rintro e w' ⟨V', rfl, hr, hb⟩
    refine ⟨V', N ++ [p], rfl, ⟨?_, h.2.add hi hul hp (.inl ⟨rfl, rfl⟩)⟩, hb⟩
    have e2 : S.add n n (-1) = ⟨S.g, S.up.set p (-1), p :: S.O, cl', fr', PC.updR S.R n (S.R n ++ [p])⟩ := by unfold FSt.add; rw [hp]
    rw [e2]
    exact hr
theorem refAdd_kid (j : Nat) (hj : j ∈ S.O) (hi : FI n S.up S.O S.cl S.fr S.R) (hul : S.up.length = n) (hP : ∀ b, w.heap.size ≤ b → P b) (h : RefIs P w V n S N) :
    Calls Try.prog 42 #[V, .int .i64 (j : Int)] w (AddIs P n S (S.add n j (j : Int)) w) := by
  have hl := h.2.le hi
  have hjN := (h.2.mem j).2 hj
  unfold AddIs FSt.tp FSt.tg FSt.tb
  rcases hp : pickP S.cl S.fr n with _ | ⟨p, cl', fr'⟩
  · refine (ref37_Add_none_kid j hjN hp h.1).mono ?_
    rintro e w' ⟨rfl, hb⟩
    have e2 : S.add n j (j : Int) = S := by unfold FSt.add; rw [hp]
    rw [e2]
    exact ⟨V, N, rfl, h.keep hb, hb⟩
  · have hno := (hi.s.pick hp).2.1
    refine (ref37_Add_kid j hjN hp hi.s hi.n1 hl (fun hm => hno ((h.2.mem p).1 hm)) hul hP h.1).mono ?_
    rintro e w' ⟨V', rfl, hr, hb⟩
    refine ⟨V', N ++ [p], rfl, ⟨?_, h.2.add hi hul hp (.inr ⟨hi.lt hj, rfl⟩)⟩, hb⟩
    have e2 : S.add n j (j : Int) = ⟨S.g, S.up.set p (j : Int), p :: S.O, cl', fr', PC.updR S.R j (S.R j ++ [p])⟩ := by unfold FSt.add; rw [hp]
    rw [e2]
    exact hr
/-- What the reference's Drop hands back. -/
def DropIs (P : Nat → Prop) (n : Nat) (S : FSt) (x : Int) (w : World) (e : Ending) (w' : World) : Prop :=
  ∃ V' N', e = .returned (.tuple #[V', .bool (dropOk S.O S.R x)]) ∧ RefIs P w' V' n (S.drop n x) N' ∧ Below w.heap.size w w'
theorem refDrop (x : Int) (hi : FI n S.up S.O S.cl S.fr S.R) (hP : ∀ b, w.heap.size ≤ b → P b) (h : RefIs P w V n S N) :
    Calls Try.prog 38 #[V, .int .i64 x] w (DropIs P n S x w) := by
  have hl := h.2.le hi
  unfold DropIs
  by_cases hx : dropOk S.O S.R x = true
  · have hx2 := hx
    unfold dropOk at hx2
    simp only [Bool.and_eq_true, decide_eq_true_eq] at hx2
    obtain ⟨p, hpO, rfl⟩ : ∃ p : Nat, p ∈ S.O ∧ x = p := by
      have hm := hx2.1
      unfold ints at hm
      obtain ⟨p, hp, e⟩ := List.mem_map.1 hm
      exact ⟨p, hp, e.symm⟩
    have e0 : ((p : Int)).toNat = p := by omega
    have e1 : childN N S.up (p : Int) = [] := by
      rw [← h.2.kid p (hi.lt hpO), ← e0]; exact hx2.2
    rw [hx]
    refine (ref37_Drop_yes p ((h.2.mem p).2 hpO) hpO e1 hi.s hi.n1 hl hP h.1).mono ?_
    rintro e w' ⟨V', rfl, hr, hb⟩
    refine ⟨V', PC.cut N p, rfl, ⟨?_, h.2.drop hi hx⟩, hb⟩
    have e2 : S.drop n (p : Int) = ⟨S.g.set p (IntKind.i64.wrap (S.g.getD p 0 + 1)), S.up, S.O.erase p, S.cl ++ [p], S.fr, PC.updR S.R (S.row n p) (PC.cut (S.R (S.row n p)) p)⟩ := by
      unfold FSt.drop
      rw [if_pos hx, e0]
    rw [e2]
    exact hr
  · have e2 : S.drop n x = S := by unfold FSt.drop; rw [if_neg hx]
    have hx' : dropOk S.O S.R x = false := by simpa using hx
    rw [e2, hx']
    have eis := h.2.is x
    by_cases hm : x ∈ ints S.O
    · rw [decide_eq_true hm] at eis
      have hin := of_decide_eq_true eis
      have hm2 := in_nat.1 hm
      have hk : childN N S.up x ≠ [] := fun e => hx (by
        unfold dropOk
        rw [decide_eq_true hm, Bool.true_and]
        refine decide_eq_true ?_
        rw [h.2.kid _ (hi.lt hm2.2), Int.toNat_of_nonneg hm2.1]
        exact e)
      refine (ref37_Drop_kids x hin hk hl h.1).mono ?_
      rintro e w' ⟨rfl, hb⟩
      exact ⟨V, N, rfl, h.keep hb, hb⟩
    · rw [decide_eq_false hm] at eis
      refine (ref37_Drop_bad x (place_lt (of_decide_eq_false eis)) h.1).mono ?_
      rintro e w' ⟨rfl, hb⟩
      exact ⟨V, N, rfl, h.keep hb, hb⟩
/-- Add of a number that is no node, and not -1. -/
theorem refAdd_bad (x : Int) (hx1 : x ≠ -1) (hx : x ∉ ints S.O) (h : RefIs P w V n S N) :
    Calls Try.prog 42 #[V, .int .i64 x] w fun e w' => e = .returned (.tuple #[V, .int .i64 0, .int .i64 0, .bool false]) ∧ Below w.heap.size w w' := by
  have eis := h.2.is x
  rw [decide_eq_false hx] at eis
  exact ref37_Add_bad x hx1 (place_lt (of_decide_eq_false eis)) h.1
end Go.Proofs.Ytdhcmnbajkpjiaa
