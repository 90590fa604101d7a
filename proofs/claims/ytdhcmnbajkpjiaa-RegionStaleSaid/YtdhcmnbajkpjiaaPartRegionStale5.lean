/- Part 5 of the proof of RegionStale: lemmas, each with its conditions ahead of it. -/
import Derived.Test.YtdhcmnbajkpjiaaPartRegionStale4
import Derived.Test.YtdhcmnbajkpjiaaPartRegionStale3
/-
  The reference's forest in memory: Add.
-/
namespace Go.Proofs.Ytdhcmnbajkpjiaa
open Go.RowKit
open Go.Maps
set_option linter.unusedVariables false
set_option linter.unusedSimpArgs false
attribute [local go_sem] drewN_alloc drewN_setCell

variable {P : Nat → Prop} {w w' : World} {V : Value} {n : Nat} {g : List Int} {O cl : List Nat} {fr : Nat} {N : List Nat} {up : List Int}
theorem own_vat2 {B : Nat} {v : Value} {l l' : List Int} {k : Nat} (h : OwnI B w v l) (e : l = l') (hk : l'.length = k) : ∃ A c, v = .slice A k c ∧ VAt (fun b => B ≤ b) w A k c (cellsI l') := by
  subst e
  subst hk
  obtain ⟨A, c, rfl, _⟩ := h.ints
  exact ⟨A, c, rfl, own_vat h (fun b hb => hb)⟩
theorem set6_block (W : World) (b k : Nat) (x0 x1 x2 x3 x4 x5 : Value) (h : k ≠ b) : ((((((W.setCell ⟨b, 0, none⟩ x0).setCell ⟨b, 1, none⟩ x1).setCell ⟨b, 2, none⟩ x2).setCell ⟨b, 3, none⟩ x3).setCell ⟨b, 4, none⟩ x4).setCell ⟨b, 5, none⟩ x5).heap[k]? = W.heap[k]? := by
  rw [Below.heap_setCell _ _ _ _ h, Below.heap_setCell _ _ _ _ h, set4_block _ _ _ _ _ _ _ h]
theorem set6_cell {W : World} {b k j : Nat} {u : Value} (h : W.cell? ⟨k, j, none⟩ = some u) (hk : k ≠ b) (x0 x1 x2 x3 x4 x5 : Value) : ((((((W.setCell ⟨b, 0, none⟩ x0).setCell ⟨b, 1, none⟩ x1).setCell ⟨b, 2, none⟩ x2).setCell ⟨b, 3, none⟩ x3).setCell ⟨b, 4, none⟩ x4).setCell ⟨b, 5, none⟩ x5).cell? ⟨k, j, none⟩ = some u := by
  have e := set6_block W b k x0 x1 x2 x3 x4 x5 hk
  generalize ((((((W.setCell ⟨b, 0, none⟩ x0).setCell ⟨b, 1, none⟩ x1).setCell ⟨b, 2, none⟩ x2).setCell ⟨b, 3, none⟩ x3).setCell ⟨b, 4, none⟩ x4).setCell ⟨b, 5, none⟩ x5) = W' at e ⊢
  exact (World.cell?_of_block e).trans h
theorem set6_below {w0 W : World} {b : Nat} (hb : Below w0.heap.size w0 W) (h : w0.heap.size ≤ b) (x0 x1 x2 x3 x4 x5 : Value) : Below w0.heap.size w0 ((((((W.setCell ⟨b, 0, none⟩ x0).setCell ⟨b, 1, none⟩ x1).setCell ⟨b, 2, none⟩ x2).setCell ⟨b, 3, none⟩ x3).setCell ⟨b, 4, none⟩ x4).setCell ⟨b, 5, none⟩ x5) :=
  ((set4_below hb h _ _ _ _).setCell h _).setCell h _
/-- What Add hands back. -/
def GAddF (P : Nat → Prop) (n : Nat) (g : List Int) (O : List Nat) (p : Nat) (cl' : List Nat) (fr' : Nat) (N : List Nat) (up : List Int) (q : Int) (w : World) (e : Ending) (w' : World) : Prop :=
  ∃ V', e = .returned (.tuple #[V', .int .i64 (p : Int), .int .i64 (g.getD p 0), .bool true]) ∧ RefF P w' V' n g (p :: O) cl' fr' (N ++ [p]) (up.set p q) ∧ Below w.heap.size w w'
set_option maxRecDepth 100000 in
set_option maxHeartbeats 8000000 in
theorem ref37_Add_root {p : Nat} {cl' : List Nat} {fr' : Nat} (hp : pickP cl fr n = some (p, cl', fr')) (hi : SlInv n O cl fr) (hn : n ≤ 4096) (hNl : N.length ≤ 4096) (hpN : p ∉ N) (hul : up.length = n) (hP : ∀ b, w.heap.size ≤ b → P b) (h : RefF P w V n g O cl fr N up) :
    Calls Try.prog 42 #[V, .int .i64 (-1)] w (GAddF P n g O p cl' fr' N up (-1) w) := by
  have hpn := (hi.pick hp).2.2.1
  have hU : Hid (upsOf N up ++ [((-1) : Int)] = upsOf (N ++ [p]) (up.set p (-1))) := Lib.hid (up_add hpN (by omega)).symm
  have hh : RefF (fun b => P b ∧ b ≠ w.heap.size + 1) w V n g O cl fr N up := h.mono (fun b hb hPb => ⟨hPb, by omega⟩)
  obtain ⟨Ao, co, Ag, cg, Ac, cc, An, cn, Ap, cp, rfl, h1, h2, h3⟩ := hh
  clear h
  have HP := Lib.hid hP
  have H2 := Lib.hid h2
  have H3 := Lib.hid h3
  have K2 : Hid (∀ W, Below w.heap.size w W → w.heap.size + 2 ≤ W.heap.size → Calls Try.prog 117 #[.agg #[.slice Ao n co, .slice Ag n cg, .slice Ac cl.length cc, .int .i64 (fr : Int)]] W (GOpen (fun b => P b ∧ b ≠ w.heap.size + 1) n g O p cl' fr' W)) := Lib.hid (fun W hW hz => ref06_OpenOne hp hi hn (fun b hb => ⟨HP.out b (by omega), by omega⟩) (h1.keep hW))
  have HL1 : Hid (([] : List Int).length + N.length ≤ 1048576) := Lib.hid (by simp; omega)
  have HL2 : Hid (([] ++ ints N : List Int).length + [(p : Int)].length ≤ 1048576) := Lib.hid (by simp [ints]; omega)
  have HL4 : Hid (([] ++ upsOf N up : List Int).length + [((-1) : Int)].length ≤ 1048576) := Lib.hid (by simp [upsOf]; omega)
  obtain ⟨m, hm⟩ : ∃ m, cl.length = m := ⟨_, rfl⟩
  rw [hm] at K2 h1 ⊢
  obtain ⟨gp, hgp⟩ : ∃ gp, g.getD p 0 = gp := ⟨_, rfl⟩
  have HGP := Lib.hid hgp
  clear h1 h2 h3 hp hi hpN hul hP hm hgp
  go_enter Try.func42, Try.ntmps42
  go_upto_region 1 with (fail)
  refine region_name ?_
  rintro W0 hW0
  have r0 : RowAt W0 w.heap.size 58 [.slice Ao n co, .slice Ag n cg, .slice Ac m cc, .int .i64 (fr : Int), .slice An N.length cn, .slice Ap N.length cp] := by
    rw [hW0]; exact (RowAt.new w 58 _).alloc _
  have s0 : RowAt W0 (w.heap.size + 1) 58 [.slice none 0 0, .slice none 0 0, .slice none 0 0, .int .i64 0, .slice none 0 0, .slice none 0 0] := by
    rw [hW0]
    have := RowAt.new (w.alloc (.cells #[.slice Ao n co, .slice Ag n cg, .slice Ac m cc, .int .i64 (fr : Int), .slice An N.length cn, .slice Ap N.length cp] 58)) 58 [.slice none 0 0, .slice none 0 0, .slice none 0 0, .int .i64 0, .slice none 0 0, .slice none 0 0]
    simpa using this
  have b0 : Below w.heap.size w W0 := by rw [hW0]; exact (by repeat (first | exact Below.refl _ _ | assumption | refine bel_drew ?_ | refine bel_drewN ?_ _ | refine bel_alloc ?_ _ | refine bel_set ?_ (by first | (dsimp only; omega) | (simp; done) | (simp; omega)) _ | refine bel_trans ?_ (by assumption)))
  have z0 : w.heap.size + 2 ≤ W0.heap.size := by rw [hW0]; simp
  clear hW0
  have c0 : W0.cell? ⟨w.heap.size, 0, none⟩ = some (.slice Ao n co) := by rw [r0.cell]; rfl
  have c1 : W0.cell? ⟨w.heap.size, 1, none⟩ = some (.slice Ag n cg) := by rw [r0.cell]; rfl
  have c2 : W0.cell? ⟨w.heap.size, 2, none⟩ = some (.slice Ac m cc) := by rw [r0.cell]; rfl
  have c3 : W0.cell? ⟨w.heap.size, 3, none⟩ = some (.int .i64 (fr : Int)) := by rw [r0.cell]; rfl
  have c4 : W0.cell? ⟨w.heap.size, 4, none⟩ = some (.slice An N.length cn) := by rw [r0.cell]; rfl
  have c5 : W0.cell? ⟨w.heap.size, 5, none⟩ = some (.slice Ap N.length cp) := by rw [r0.cell]; rfl
  have r1 := r0
  have s1 := s0
  have b1 := b0
  have z1 := z0
  go_wp2_with fail
  refine (K2.out _ b1 z1).mono ?_
  rintro e u1 ⟨V', rfl, ⟨Ao', co', Ag', cg', Ac', cc', rfl, h1, h2, h3⟩, hbu⟩
  rw [HGP.out]
  have q1 := Lib.hid h1
  have q2 := Lib.hid h2
  have q3 := Lib.hid h3
  have r2 := r1.keep hbu
  have s2 := s1.keep hbu
  have b2 := bel_trans b1 hbu
  have z2 := Nat.le_trans z1 hbu.size
  obtain ⟨m', hm'⟩ : ∃ m', cl'.length = m' := ⟨_, rfl⟩
  rw [hm'] at q3 ⊢
  have HM' := Lib.hid hm'
  clear c0 c1 c2 c3 c4 c5 r1 s1 b1 hbu h1 h2 h3 hm'
  go_upto_region 6 with (fail)
  refine region_name ?_
  rintro W6 hW6
  have t6 : RowAt W6 u1.heap.size 56 [.slice Ao' n co', .slice Ag' n cg', .slice Ac' m' cc', .int .i64 (fr' : Int)] := by
    rw [hW6]; exact RowAt.new u1 56 _
  have r6 : RowAt W6 w.heap.size 58 [.slice Ao n co, .slice Ag n cg, .slice Ac m cc, .int .i64 (fr : Int), .slice An N.length cn, .slice Ap N.length cp] := by rw [hW6]; exact r2.alloc _
  have s6 : RowAt W6 (w.heap.size + 1) 58 [.slice none 0 0, .slice none 0 0, .slice none 0 0, .int .i64 0, .slice none 0 0, .slice none 0 0] := by rw [hW6]; exact s2.alloc _
  have bu : Below u1.heap.size u1 W6 := by rw [hW6]; exact (by repeat (first | exact Below.refl _ _ | assumption | refine bel_drew ?_ | refine bel_drewN ?_ _ | refine bel_alloc ?_ _ | refine bel_set ?_ (by first | (dsimp only; omega) | (simp; done) | (simp; omega)) _ | refine bel_trans ?_ (by assumption)))
  have b6 : Below w.heap.size w W6 := by rw [hW6]; exact bel_alloc b2 _
  have z6 : u1.heap.size < W6.heap.size := by rw [hW6]; simp
  clear hW6 r2 s2 b2
  have zlt : w.heap.size < W6.heap.size := by omega
  have hS : Hid (∀ W : World, Below W6.heap.size W6 W → (fun W : World => W.cell? ⟨u1.heap.size, 0, none⟩ = some (.slice Ao' n co') ∧ W.cell? ⟨u1.heap.size, 1, none⟩ = some (.slice Ag' n cg') ∧ W.cell? ⟨u1.heap.size, 2, none⟩ = some (.slice Ac' m' cc') ∧ W.cell? ⟨u1.heap.size, 3, none⟩ = some (.int .i64 (fr' : Int)) ∧ W.cell? ⟨w.heap.size, 4, none⟩ = some (.slice An N.length cn) ∧ W.cell? ⟨w.heap.size, 5, none⟩ = some (.slice Ap N.length cp)) W) := Lib.hid (fun W hW => ⟨(hW.cell (p := ⟨u1.heap.size, 0, none⟩) z6).trans ((t6.cell 0).trans rfl), (hW.cell (p := ⟨u1.heap.size, 1, none⟩) z6).trans ((t6.cell 1).trans rfl), (hW.cell (p := ⟨u1.heap.size, 2, none⟩) z6).trans ((t6.cell 2).trans rfl), (hW.cell (p := ⟨u1.heap.size, 3, none⟩) z6).trans ((t6.cell 3).trans rfl), (hW.cell (p := ⟨w.heap.size, 4, none⟩) zlt).trans ((r6.cell 4).trans rfl), (hW.cell (p := ⟨w.heap.size, 5, none⟩) zlt).trans ((r6.cell 5).trans rfl)⟩)
  have HR : Hid (∀ W : World, Below W6.heap.size W6 W → RowAt W (w.heap.size + 1) 58 [.slice none 0 0, .slice none 0 0, .slice none 0 0, .int .i64 0, .slice none 0 0, .slice none 0 0]) := Lib.hid (fun W hW => s6.keep hW)
  have HN1 : Hid (∀ W : World, Below W6.heap.size W6 W → SrcS 1 W An N.length (cellsI (ints N))) := Lib.hid (fun W hW => ((H2.out.keep b6).keep hW).src)
  have HN2 : Hid (∀ W : World, Below W6.heap.size W6 W → SrcS 1 W Ap N.length (cellsI (upsOf N up))) := Lib.hid (fun W hW => ((H3.out.keep b6).keep hW).src)
  have HB6 := Lib.hid b6
  have HNE1 : Hid (u1.heap.size ≠ w.heap.size + 1) := Lib.hid (by omega)
  have HNE2 : Hid (w.heap.size ≠ w.heap.size + 1) := Lib.hid (by omega)
  have HBU := Lib.hid bu
  clear r6 s6 t6 b6 bu
  refine wp_region_held_drew (S := (fun W : World => W.cell? ⟨u1.heap.size, 0, none⟩ = some (.slice Ao' n co') ∧ W.cell? ⟨u1.heap.size, 1, none⟩ = some (.slice Ag' n cg') ∧ W.cell? ⟨u1.heap.size, 2, none⟩ = some (.slice Ac' m' cc') ∧ W.cell? ⟨u1.heap.size, 3, none⟩ = some (.int .i64 (fr' : Int)) ∧ W.cell? ⟨w.heap.size, 4, none⟩ = some (.slice An N.length cn) ∧ W.cell? ⟨w.heap.size, 5, none⟩ = some (.slice Ap N.length cp))) (by kernel_rfl) ?_ (fun hHeld => ?_)
  focus ((try dsimp only); first | exact q | exact hS.out _ (by repeat (first | exact Below.refl _ _ | assumption | refine bel_drew ?_ | refine bel_drewN ?_ _ | refine bel_alloc ?_ _ | refine bel_trans ?_ (by assumption))))
  refine tk_yes 0 (v := ?_) rfl (by kernel_rfl) (by kernel_rfl) (by kernel_rfl) (fun _ _ _ h => h) (by kernel_rfl) (by assumption) ?_ ?_; rotate_left; (focus (intro w hSw; (try dsimp only at hSw); go_simp; (first | done | (with_reducible rfl)))); (try simp only [Act.put, List.setIfInBounds_toArray, List.set_cons_zero, List.set_cons_succ])
  refine tk_yes 2 (v := ?_) rfl (by kernel_rfl) (by kernel_rfl) (by kernel_rfl) (fun _ _ _ h => h) (by kernel_rfl) (by assumption) ?_ ?_; rotate_left; (focus (intro w hSw; (try dsimp only at hSw); go_simp; (first | done | (with_reducible rfl)))); (try simp only [Act.put, List.setIfInBounds_toArray, List.set_cons_zero, List.set_cons_succ])
  refine tk_yes 3 (v := ?_) rfl (by kernel_rfl) (by kernel_rfl) (by kernel_rfl) (fun _ _ _ h => h) (by kernel_rfl) (by assumption) ?_ ?_; rotate_left; (focus (intro w hSw; (try dsimp only at hSw); go_simp; (first | done | (with_reducible rfl)))); (try simp only [Act.put, List.setIfInBounds_toArray, List.set_cons_zero, List.set_cons_succ])
  refine tk_yes 5 (v := ?_) rfl (by kernel_rfl) (by kernel_rfl) (by kernel_rfl) (fun _ _ _ h => h) (by kernel_rfl) (by assumption) ?_ ?_; rotate_left; (focus (intro w hSw; (try dsimp only at hSw); go_simp; (first | done | (with_reducible rfl)))); (try simp only [Act.put, List.setIfInBounds_toArray, List.set_cons_zero, List.set_cons_succ])
  refine tk_yes 9 (v := ?_) rfl (by kernel_rfl) (by kernel_rfl) (by kernel_rfl) (fun _ _ _ h => h) (by kernel_rfl) (by assumption) ?_ ?_; rotate_left; (focus (intro w hSw; (try dsimp only at hSw); go_simp; (first | done | (with_reducible rfl)))); (try simp only [Act.put, List.setIfInBounds_toArray, List.set_cons_zero, List.set_cons_succ])
  refine tk_yes 10 (v := ?_) rfl (by kernel_rfl) (by kernel_rfl) (by kernel_rfl) (fun _ _ _ h => h) (by kernel_rfl) (by assumption) ?_ ?_; rotate_left; (focus (intro w hSw; (try dsimp only at hSw); go_simp; (first | done | (with_reducible rfl)))); (try simp only [Act.put, List.setIfInBounds_toArray, List.set_cons_zero, List.set_cons_succ])
  refine tk_yes 12 (v := ?_) rfl (by kernel_rfl) (by kernel_rfl) (by kernel_rfl) (fun _ _ _ h => h) (by kernel_rfl) (by assumption) ?_ ?_; rotate_left; (focus (intro w hSw; (try dsimp only at hSw); go_simp; (first | done | (with_reducible rfl)))); (try simp only [Act.put, List.setIfInBounds_toArray, List.set_cons_zero, List.set_cons_succ])
  refine tk_yes 16 (v := ?_) rfl (by kernel_rfl) (by kernel_rfl) (by kernel_rfl) (fun _ _ _ h => h) (by kernel_rfl) (by assumption) ?_ ?_; rotate_left; (focus (intro w hSw; (try dsimp only at hSw); go_simp; (first | done | (with_reducible rfl)))); (try simp only [Act.put, List.setIfInBounds_toArray, List.set_cons_zero, List.set_cons_succ])
  refine tk_yes 17 (v := ?_) rfl (by kernel_rfl) (by kernel_rfl) (by kernel_rfl) (fun _ _ _ h => h) (by kernel_rfl) (by assumption) ?_ ?_; rotate_left; (focus (intro w hSw; (try dsimp only at hSw); go_simp; (first | done | (with_reducible rfl)))); (try simp only [Act.put, List.setIfInBounds_toArray, List.set_cons_zero, List.set_cons_succ])
  refine dag_name ?_
  intro OPS Q' a0 hO hQ ha
  have L4_16813 : ∀ (WW : World) (v33 v36 v38 v39 v40 v43 v45 v46 : Value), Below W6.heap.size W6 WW → Own2 W6.heap.size WW [(39, v39, (([] ++ (ints N)) ++ [(p : Int)])), (46, v46, (([] ++ (upsOf N up)) ++ [((-1) : Int)]))] → wpAnyH Try.prog .any OPS Q' (fun W : World => W.cell? ⟨u1.heap.size, 0, none⟩ = some (.slice Ao' n co') ∧ W.cell? ⟨u1.heap.size, 1, none⟩ = some (.slice Ag' n cg') ∧ W.cell? ⟨u1.heap.size, 2, none⟩ = some (.slice Ac' m' cc') ∧ W.cell? ⟨u1.heap.size, 3, none⟩ = some (.int .i64 (fr' : Int)) ∧ W.cell? ⟨w.heap.size, 4, none⟩ = some (.slice An N.length cn) ∧ W.cell? ⟨w.heap.size, 5, none⟩ = some (.slice Ap N.length cp)) 5 #[true, true, true, true, true, true, true, true, true, true, true, true, true, true, true, false, true, true, false, false, false, false] ((((((((a0.put (some 33) v33).put (some 36) v36).put (some 38) v38).put (some 39) v39).put (some 40) v40).put (some 43) v43).put (some 45) v45).put (some 46) v46) WW := by
    intro WW v33 v36 v38 v39 v40 v43 v45 v46 hb ho
    subst hO
    subst ha
    subst hQ
    (try simp only [Act.put, List.setIfInBounds_toArray, List.set_cons_zero, List.set_cons_succ])
    have q := hS.out _ hb
    obtain ⟨k39, hk39⟩ : ∃ k, (N ++ [p]).length = k := ⟨_, rfl⟩
    obtain ⟨A39, c39, rfl, x39⟩ := own_vat2 (l' := ints (N ++ [p])) (k := k39) (ho.own (d := 39) (v := v39) (l := (([] ++ ints N) ++ [(p : Int)])) (by simp)) (by simp [ints]) (by rw [ints_len]; exact hk39)
    obtain ⟨A46, c46, rfl, x46⟩ := own_vat2 (l' := upsOf (N ++ [p]) (up.set p (-1))) (k := k39) (ho.own (d := 46) (v := v46) (l := (([] ++ upsOf N up) ++ [((-1) : Int)])) (by simp)) (by rw [← hU.out]; simp) (by rw [upsOf_len]; exact hk39)
    have s7 := HR.out _ hb
    have e0 := (s7.cell 0).trans rfl
    have e1 := (s7.cell 1).trans rfl
    have e2 := (s7.cell 2).trans rfl
    have e3 := (s7.cell 3).trans rfl
    have e4 := (s7.cell 4).trans rfl
    have e5 := (s7.cell 5).trans rfl
    have f0 := s7.frozen 0
    have f1 := s7.frozen 1
    have f2 := s7.frozen 2
    have f3 := s7.frozen 3
    have f4 := s7.frozen 4
    have f5 := s7.frozen 5
    have hb' := Lib.hid hb
    have X39 := Lib.hid x39
    have X46 := Lib.hid x46
    clear x39 x46 ho s7
    refine tk_yes 15 (v := ?_) rfl (by kernel_rfl) (by kernel_rfl) (by kernel_rfl) (fun _ _ _ h => h) (by kernel_rfl) (by assumption) ?_ ?_; rotate_left; (focus (intro w hSw; (try dsimp only at hSw); go_simp; (first | done | (with_reducible rfl)))); (try simp only [Act.put, List.setIfInBounds_toArray, List.set_cons_zero, List.set_cons_succ])
    refine tk_call 18 rfl (by kernel_rfl) (by kernel_rfl) (fun KW hKW => ?_); go_simp; refine hKW.out _ _ ?_ (fun hHeld => ?_); (focus ((try dsimp only); with_reducible exact ⟨set6_cell q.1 HNE1.out _ _ _ _ _ _, set6_cell q.2.1 HNE1.out _ _ _ _ _ _, set6_cell q.2.2.1 HNE1.out _ _ _ _ _ _, set6_cell q.2.2.2.1 HNE1.out _ _ _ _ _ _, set6_cell q.2.2.2.2.1 HNE2.out _ _ _ _ _ _, set6_cell q.2.2.2.2.2 HNE2.out _ _ _ _ _ _⟩)); clear hKW KW; (try simp only [Act.put, List.setIfInBounds_toArray, List.set_cons_zero, List.set_cons_succ])
    refine tk_yes 19 (v := ?_) rfl (by kernel_rfl) (by kernel_rfl) (by kernel_rfl) (fun _ _ _ h => h) (by kernel_rfl) (by assumption) ?_ ?_; rotate_left; (focus (intro w hSw; (try dsimp only at hSw); go_simp; (first | done | (with_reducible rfl)))); (try simp only [Act.put, List.setIfInBounds_toArray, List.set_cons_zero, List.set_cons_succ])
    refine tk_yes 20 (v := ?_) rfl (by kernel_rfl) (by kernel_rfl) (by kernel_rfl) (fun _ _ _ h => h) (by kernel_rfl) (by assumption) ?_ ?_; rotate_left; (focus (intro w hSw; (try dsimp only at hSw); go_simp; (first | done | (with_reducible rfl)))); (try simp only [Act.put, List.setIfInBounds_toArray, List.set_cons_zero, List.set_cons_succ])
    refine tk_yes 21 (v := ?_) rfl (by kernel_rfl) (by kernel_rfl) (by kernel_rfl) (fun _ _ _ h => h) (by kernel_rfl) (by assumption) ?_ ?_; rotate_left; (focus (intro w hSw; (try dsimp only at hSw); go_simp; (first | done | (with_reducible rfl)))); (try simp only [Act.put, List.setIfInBounds_toArray, List.set_cons_zero, List.set_cons_succ])
    refine wpAnyH_done (by kernel_rfl) ?_ _
    go_wp2_with fail
    refine bodyPost_ret (v := .tuple #[.agg #[.slice Ao' n co', .slice Ag' n cg', .slice Ac' m' cc', .int .i64 (fr' : Int), .slice A39 k39 c39, .slice A46 k39 c46], .int .i64 (p : Int), .int .i64 gp, .bool true]) (by simp [results, Try.results42, go_sem, e0, e1, e2, e3, e4, e5]) rfl ?_
    clear e0 e1 e2 e3 e4 e5 f0 f1 f2 f3 f4 f5 q
    have hW : Below w.heap.size w ((((((WW.setCell ⟨w.heap.size + 1, 0, none⟩ (.slice Ao' n co')).setCell ⟨w.heap.size + 1, 1, none⟩ (.slice Ag' n cg')).setCell ⟨w.heap.size + 1, 2, none⟩ (.slice Ac' m' cc')).setCell ⟨w.heap.size + 1, 3, none⟩ (.int .i64 (fr' : Int))).setCell ⟨w.heap.size + 1, 4, none⟩ (.slice A39 k39 c39)).setCell ⟨w.heap.size + 1, 5, none⟩ (.slice A46 k39 c46)) := set6_below (bel_trans HB6.out hb'.out) (by omega) _ _ _ _ _ _
    have hbl : ∀ k, k ≠ w.heap.size + 1 → ((((((WW.setCell ⟨w.heap.size + 1, 0, none⟩ (.slice Ao' n co')).setCell ⟨w.heap.size + 1, 1, none⟩ (.slice Ag' n cg')).setCell ⟨w.heap.size + 1, 2, none⟩ (.slice Ac' m' cc')).setCell ⟨w.heap.size + 1, 3, none⟩ (.int .i64 (fr' : Int))).setCell ⟨w.heap.size + 1, 4, none⟩ (.slice A39 k39 c39)).setCell ⟨w.heap.size + 1, 5, none⟩ (.slice A46 k39 c46)).heap[k]? = WW.heap[k]? := fun k hk => set6_block _ _ _ _ _ _ _ _ _ hk
    have hsz : WW.heap.size ≤ ((((((WW.setCell ⟨w.heap.size + 1, 0, none⟩ (.slice Ao' n co')).setCell ⟨w.heap.size + 1, 1, none⟩ (.slice Ag' n cg')).setCell ⟨w.heap.size + 1, 2, none⟩ (.slice Ac' m' cc')).setCell ⟨w.heap.size + 1, 3, none⟩ (.int .i64 (fr' : Int))).setCell ⟨w.heap.size + 1, 4, none⟩ (.slice A39 k39 c39)).setCell ⟨w.heap.size + 1, 5, none⟩ (.slice A46 k39 c46)).heap.size := by simp
    generalize ((((((WW.setCell ⟨w.heap.size + 1, 0, none⟩ (.slice Ao' n co')).setCell ⟨w.heap.size + 1, 1, none⟩ (.slice Ag' n cg')).setCell ⟨w.heap.size + 1, 2, none⟩ (.slice Ac' m' cc')).setCell ⟨w.heap.size + 1, 3, none⟩ (.int .i64 (fr' : Int))).setCell ⟨w.heap.size + 1, 4, none⟩ (.slice A39 k39 c39)).setCell ⟨w.heap.size + 1, 5, none⟩ (.slice A46 k39 c46)) = Wf at hW hbl hsz ⊢
    unfold GAddF
    rw [HGP.out]
    have hold : ∀ {A : Option Addr} {k c : Nat} {vs : List Value}, VAt (fun b => P b ∧ b ≠ w.heap.size + 1) u1 A k c vs → VAt P Wf A k c vs := fun hv => (((hv.keep HBU.out).keep hb'.out).blocks hsz (fun b _ hb => hbl b hb.2)).mono (fun b _ hb => hb.1)
    have hnew : ∀ {A : Option Addr} {k c : Nat} {vs : List Value}, VAt (fun b => W6.heap.size ≤ b) WW A k c vs → VAt P Wf A k c vs := fun hv => (hv.blocks hsz (fun b _ hb => hbl b (by omega))).mono (fun b _ hb => HP.out b (by omega))
    subst hk39
    have x3 := hold q3.out
    rw [← HM'.out] at x3 ⊢
    exact ⟨_, rfl, ⟨Ao', co', Ag', cg', Ac', cc', A39, c39, A46, c46, rfl, ⟨Ao', co', Ag', cg', Ac', cc', rfl, hold q1.out, hold q2.out, x3⟩, hnew X39.out, hnew X46.out⟩, hW⟩
  have L3_16813 : ∀ (WW : World) (v33 v36 v38 v39 v40 v43 v45 : Value), Below W6.heap.size W6 WW → Own2 W6.heap.size WW [(39, v39, (([] ++ (ints N)) ++ [(p : Int)])), (43, v43, ([] ++ (upsOf N up))), (45, v45, [((-1) : Int)])] → wpAnyH Try.prog .any OPS Q' (fun W : World => W.cell? ⟨u1.heap.size, 0, none⟩ = some (.slice Ao' n co') ∧ W.cell? ⟨u1.heap.size, 1, none⟩ = some (.slice Ag' n cg') ∧ W.cell? ⟨u1.heap.size, 2, none⟩ = some (.slice Ac' m' cc') ∧ W.cell? ⟨u1.heap.size, 3, none⟩ = some (.int .i64 (fr' : Int)) ∧ W.cell? ⟨w.heap.size, 4, none⟩ = some (.slice An N.length cn) ∧ W.cell? ⟨w.heap.size, 5, none⟩ = some (.slice Ap N.length cp)) 6 #[true, true, true, true, true, true, true, true, true, true, true, true, true, true, false, false, true, true, false, false, false, false] (((((((a0.put (some 33) v33).put (some 36) v36).put (some 38) v38).put (some 39) v39).put (some 40) v40).put (some 43) v43).put (some 45) v45) WW := by
    intro WW v33 v36 v38 v39 v40 v43 v45 hb ho
    subst hO
    subst ha
    simp only [Act.put, List.setIfInBounds_toArray, List.set_cons_zero, List.set_cons_succ] at L4_16813
    (try simp only [Act.put, List.setIfInBounds_toArray, List.set_cons_zero, List.set_cons_succ])
    refine wpAnyH_ready (rs := [14]) (by kernel_rfl) (by simp) (ready_cons (i := 14) rfl (by kernel_rfl) (fun KW hKW => ?_) (AllReadyH.nil))
    · obtain ⟨Ax, cx, rfl, ix, -, -⟩ := (ho.own (d := 45) (v := v45) (l := [((-1) : Int)]) (by simp)).ints
      refine app_operI2 (.tmp 43) (.tmp 45) rfl W6.heap.size v43 ([] ++ (upsOf N up)) rfl (ho.own (d := 43) (v := v43) (l := ([] ++ (upsOf N up))) (by simp)) Ax ([((-1) : Int)] : List Int).length cx [((-1) : Int)] rfl ix.srcI HL4.out hb.size ?_
      intro v9 W9 ho9 hb9 hoth hor hsz
      have hb2 := hb.trans hb9
      refine hKW.out _ _ ?_ (fun hHeld => ?_); (focus ((try dsimp only); exact hS.out _ hb2))
      (try simp only [Act.put, List.setIfInBounds_toArray, List.set_cons_zero, List.set_cons_succ])
      exact L4_16813 _ v33 v36 v38 v39 v40 v43 _ v9 hb2 ((Own2.app (d0 := 43) (v0 := v43) (l0 := ([] ++ (upsOf N up))) (d := 46) (L' := [(39, v39, (([] ++ (ints N)) ++ [(p : Int)]))]) ho (by simp) ho9 hoth hor (by simp)).sub (by simp))
  have L3_168 : ∀ (WW : World) (v33 v36 v38 v39 v40 v43 : Value), Below W6.heap.size W6 WW → Own2 W6.heap.size WW [(39, v39, (([] ++ (ints N)) ++ [(p : Int)])), (43, v43, ([] ++ (upsOf N up)))] → wpAnyH Try.prog .any OPS Q' (fun W : World => W.cell? ⟨u1.heap.size, 0, none⟩ = some (.slice Ao' n co') ∧ W.cell? ⟨u1.heap.size, 1, none⟩ = some (.slice Ag' n cg') ∧ W.cell? ⟨u1.heap.size, 2, none⟩ = some (.slice Ac' m' cc') ∧ W.cell? ⟨u1.heap.size, 3, none⟩ = some (.int .i64 (fr' : Int)) ∧ W.cell? ⟨w.heap.size, 4, none⟩ = some (.slice An N.length cn) ∧ W.cell? ⟨w.heap.size, 5, none⟩ = some (.slice Ap N.length cp)) 7 #[true, true, true, true, true, true, true, true, true, true, true, true, true, false, false, false, true, true, false, false, false, false] ((((((a0.put (some 33) v33).put (some 36) v36).put (some 38) v38).put (some 39) v39).put (some 40) v40).put (some 43) v43) WW := by
    intro WW v33 v36 v38 v39 v40 v43 hb ho
    subst hO
    subst ha
    simp only [Act.put, List.setIfInBounds_toArray, List.set_cons_zero, List.set_cons_succ] at L3_16813
    (try simp only [Act.put, List.setIfInBounds_toArray, List.set_cons_zero, List.set_cons_succ])
    refine wpAnyH_ready (rs := [13]) (by kernel_rfl) (by simp) (ready_cons (i := 13) rfl (by kernel_rfl) (fun KW hKW => ?_) (AllReadyH.nil))
    · go_simp; refine hKW.out _ _ ?_ (fun hHeld => ?_); (focus ((try dsimp only); exact hS.out _ (by repeat (first | exact Below.refl _ _ | assumption | refine bel_drew ?_ | refine bel_drewN ?_ _ | refine bel_alloc ?_ _ | refine bel_trans ?_ (by assumption)))))
      (try simp only [Act.put, List.setIfInBounds_toArray, List.set_cons_zero, List.set_cons_succ])
      exact L3_16813 _ v33 v36 v38 v39 v40 v43 (.slice (some ⟨WW.heap.size, 0, none⟩) 1 1) (by repeat (first | exact Below.refl _ _ | assumption | refine bel_drew ?_ | refine bel_drewN ?_ _ | refine bel_alloc ?_ _ | refine bel_trans ?_ (by assumption))) ((Own2.lit (d := 45) ho hb.size (by simp) (own_oneI2 WW ((-1) : Int))).sub (by simp))
  have L2_16813 : ∀ (WW : World) (v33 v36 v38 v39 v40 v45 : Value), Below W6.heap.size W6 WW → Own2 W6.heap.size WW [(39, v39, (([] ++ (ints N)) ++ [(p : Int)])), (40, v40, []), (45, v45, [((-1) : Int)])] → wpAnyH Try.prog .any OPS Q' (fun W : World => W.cell? ⟨u1.heap.size, 0, none⟩ = some (.slice Ao' n co') ∧ W.cell? ⟨u1.heap.size, 1, none⟩ = some (.slice Ag' n cg') ∧ W.cell? ⟨u1.heap.size, 2, none⟩ = some (.slice Ac' m' cc') ∧ W.cell? ⟨u1.heap.size, 3, none⟩ = some (.int .i64 (fr' : Int)) ∧ W.cell? ⟨w.heap.size, 4, none⟩ = some (.slice An N.length cn) ∧ W.cell? ⟨w.heap.size, 5, none⟩ = some (.slice Ap N.length cp)) 7 #[true, true, true, true, true, true, true, true, true, true, true, false, true, true, false, false, true, true, false, false, false, false] ((((((a0.put (some 33) v33).put (some 36) v36).put (some 38) v38).put (some 39) v39).put (some 40) v40).put (some 45) v45) WW := by
    intro WW v33 v36 v38 v39 v40 v45 hb ho
    subst hO
    subst ha
    simp only [Act.put, List.setIfInBounds_toArray, List.set_cons_zero, List.set_cons_succ] at L3_16813
    (try simp only [Act.put, List.setIfInBounds_toArray, List.set_cons_zero, List.set_cons_succ])
    refine wpAnyH_ready (rs := [11]) (by kernel_rfl) (by simp) (ready_cons (i := 11) rfl (by kernel_rfl) (fun KW hKW => ?_) (AllReadyH.nil))
    · refine app_operI2 (.tmp 40) (.tmp 42) rfl W6.heap.size v40 [] rfl (ho.own (d := 40) (v := v40) (l := []) (by simp)) Ap N.length cp (upsOf N up) rfl (HN2.out _ hb) HL1.out hb.size ?_
      intro v9 W9 ho9 hb9 hoth hor hsz
      have hb2 := hb.trans hb9
      refine hKW.out _ _ ?_ (fun hHeld => ?_); (focus ((try dsimp only); exact hS.out _ hb2))
      (try simp only [Act.put, List.setIfInBounds_toArray, List.set_cons_zero, List.set_cons_succ])
      exact L3_16813 _ v33 v36 v38 v39 v40 v9 v45 hb2 ((Own2.app (d0 := 40) (v0 := v40) (l0 := []) (d := 43) (L' := [(39, v39, (([] ++ (ints N)) ++ [(p : Int)])), (45, v45, [((-1) : Int)])]) ho (by simp) ho9 hoth hor (by simp)).sub (by simp))
  have L2_168 : ∀ (WW : World) (v33 v36 v38 v39 v40 : Value), Below W6.heap.size W6 WW → Own2 W6.heap.size WW [(39, v39, (([] ++ (ints N)) ++ [(p : Int)])), (40, v40, [])] → wpAnyH Try.prog .any OPS Q' (fun W : World => W.cell? ⟨u1.heap.size, 0, none⟩ = some (.slice Ao' n co') ∧ W.cell? ⟨u1.heap.size, 1, none⟩ = some (.slice Ag' n cg') ∧ W.cell? ⟨u1.heap.size, 2, none⟩ = some (.slice Ac' m' cc') ∧ W.cell? ⟨u1.heap.size, 3, none⟩ = some (.int .i64 (fr' : Int)) ∧ W.cell? ⟨w.heap.size, 4, none⟩ = some (.slice An N.length cn) ∧ W.cell? ⟨w.heap.size, 5, none⟩ = some (.slice Ap N.length cp)) 8 #[true, true, true, true, true, true, true, true, true, true, true, false, true, false, false, false, true, true, false, false, false, false] (((((a0.put (some 33) v33).put (some 36) v36).put (some 38) v38).put (some 39) v39).put (some 40) v40) WW := by
    intro WW v33 v36 v38 v39 v40 hb ho
    subst hO
    subst ha
    simp only [Act.put, List.setIfInBounds_toArray, List.set_cons_zero, List.set_cons_succ] at L3_168
    simp only [Act.put, List.setIfInBounds_toArray, List.set_cons_zero, List.set_cons_succ] at L2_16813
    (try simp only [Act.put, List.setIfInBounds_toArray, List.set_cons_zero, List.set_cons_succ])
    refine wpAnyH_ready (rs := [11, 13]) (by kernel_rfl) (by simp) (ready_cons (i := 11) rfl (by kernel_rfl) (fun KW hKW => ?_) (ready_cons (i := 13) rfl (by kernel_rfl) (fun KW hKW => ?_) (AllReadyH.nil)))
    · refine app_operI2 (.tmp 40) (.tmp 42) rfl W6.heap.size v40 [] rfl (ho.own (d := 40) (v := v40) (l := []) (by simp)) Ap N.length cp (upsOf N up) rfl (HN2.out _ hb) HL1.out hb.size ?_
      intro v9 W9 ho9 hb9 hoth hor hsz
      have hb2 := hb.trans hb9
      refine hKW.out _ _ ?_ (fun hHeld => ?_); (focus ((try dsimp only); exact hS.out _ hb2))
      (try simp only [Act.put, List.setIfInBounds_toArray, List.set_cons_zero, List.set_cons_succ])
      exact L3_168 _ v33 v36 v38 v39 v40 v9 hb2 ((Own2.app (d0 := 40) (v0 := v40) (l0 := []) (d := 43) (L' := [(39, v39, (([] ++ (ints N)) ++ [(p : Int)]))]) ho (by simp) ho9 hoth hor (by simp)).sub (by simp))
    · go_simp; refine hKW.out _ _ ?_ (fun hHeld => ?_); (focus ((try dsimp only); exact hS.out _ (by repeat (first | exact Below.refl _ _ | assumption | refine bel_drew ?_ | refine bel_drewN ?_ _ | refine bel_alloc ?_ _ | refine bel_trans ?_ (by assumption)))))
      (try simp only [Act.put, List.setIfInBounds_toArray, List.set_cons_zero, List.set_cons_succ])
      exact L2_16813 _ v33 v36 v38 v39 v40 (.slice (some ⟨WW.heap.size, 0, none⟩) 1 1) (by repeat (first | exact Below.refl _ _ | assumption | refine bel_drew ?_ | refine bel_drewN ?_ _ | refine bel_alloc ?_ _ | refine bel_trans ?_ (by assumption))) ((Own2.lit (d := 45) ho hb.size (by simp) (own_oneI2 WW ((-1) : Int))).sub (by simp))
  have L2_1613 : ∀ (WW : World) (v33 v36 v38 v39 v45 : Value), Below W6.heap.size W6 WW → Own2 W6.heap.size WW [(39, v39, (([] ++ (ints N)) ++ [(p : Int)])), (45, v45, [((-1) : Int)])] → wpAnyH Try.prog .any OPS Q' (fun W : World => W.cell? ⟨u1.heap.size, 0, none⟩ = some (.slice Ao' n co') ∧ W.cell? ⟨u1.heap.size, 1, none⟩ = some (.slice Ag' n cg') ∧ W.cell? ⟨u1.heap.size, 2, none⟩ = some (.slice Ac' m' cc') ∧ W.cell? ⟨u1.heap.size, 3, none⟩ = some (.int .i64 (fr' : Int)) ∧ W.cell? ⟨w.heap.size, 4, none⟩ = some (.slice An N.length cn) ∧ W.cell? ⟨w.heap.size, 5, none⟩ = some (.slice Ap N.length cp)) 8 #[true, true, true, true, true, true, true, true, false, true, true, false, true, true, false, false, true, true, false, false, false, false] (((((a0.put (some 33) v33).put (some 36) v36).put (some 38) v38).put (some 39) v39).put (some 45) v45) WW := by
    intro WW v33 v36 v38 v39 v45 hb ho
    subst hO
    subst ha
    simp only [Act.put, List.setIfInBounds_toArray, List.set_cons_zero, List.set_cons_succ] at L2_16813
    (try simp only [Act.put, List.setIfInBounds_toArray, List.set_cons_zero, List.set_cons_succ])
    refine wpAnyH_ready (rs := [8]) (by kernel_rfl) (by simp) (ready_cons (i := 8) rfl (by kernel_rfl) (fun KW hKW => ?_) (AllReadyH.nil))
    · go_simp; refine hKW.out _ _ ?_ (fun hHeld => ?_); (focus ((try dsimp only); exact hS.out _ (by repeat (first | exact Below.refl _ _ | assumption | refine bel_drew ?_ | refine bel_drewN ?_ _ | refine bel_alloc ?_ _ | refine bel_trans ?_ (by assumption)))))
      (try simp only [Act.put, List.setIfInBounds_toArray, List.set_cons_zero, List.set_cons_succ])
      exact L2_16813 _ v33 v36 v38 v39 (.slice (some ⟨WW.heap.size, 0, none⟩) 0 0) v45 (by repeat (first | exact Below.refl _ _ | assumption | refine bel_drew ?_ | refine bel_drewN ?_ _ | refine bel_alloc ?_ _ | refine bel_trans ?_ (by assumption))) ((Own2.lit (d := 40) ho hb.size (by simp) (own_emptyI WW)).sub (by simp))
  have L2_16 : ∀ (WW : World) (v33 v36 v38 v39 : Value), Below W6.heap.size W6 WW → Own2 W6.heap.size WW [(39, v39, (([] ++ (ints N)) ++ [(p : Int)]))] → wpAnyH Try.prog .any OPS Q' (fun W : World => W.cell? ⟨u1.heap.size, 0, none⟩ = some (.slice Ao' n co') ∧ W.cell? ⟨u1.heap.size, 1, none⟩ = some (.slice Ag' n cg') ∧ W.cell? ⟨u1.heap.size, 2, none⟩ = some (.slice Ac' m' cc') ∧ W.cell? ⟨u1.heap.size, 3, none⟩ = some (.int .i64 (fr' : Int)) ∧ W.cell? ⟨w.heap.size, 4, none⟩ = some (.slice An N.length cn) ∧ W.cell? ⟨w.heap.size, 5, none⟩ = some (.slice Ap N.length cp)) 9 #[true, true, true, true, true, true, true, true, false, true, true, false, true, false, false, false, true, true, false, false, false, false] ((((a0.put (some 33) v33).put (some 36) v36).put (some 38) v38).put (some 39) v39) WW := by
    intro WW v33 v36 v38 v39 hb ho
    subst hO
    subst ha
    simp only [Act.put, List.setIfInBounds_toArray, List.set_cons_zero, List.set_cons_succ] at L2_168
    simp only [Act.put, List.setIfInBounds_toArray, List.set_cons_zero, List.set_cons_succ] at L2_1613
    (try simp only [Act.put, List.setIfInBounds_toArray, List.set_cons_zero, List.set_cons_succ])
    refine wpAnyH_ready (rs := [8, 13]) (by kernel_rfl) (by simp) (ready_cons (i := 8) rfl (by kernel_rfl) (fun KW hKW => ?_) (ready_cons (i := 13) rfl (by kernel_rfl) (fun KW hKW => ?_) (AllReadyH.nil)))
    · go_simp; refine hKW.out _ _ ?_ (fun hHeld => ?_); (focus ((try dsimp only); exact hS.out _ (by repeat (first | exact Below.refl _ _ | assumption | refine bel_drew ?_ | refine bel_drewN ?_ _ | refine bel_alloc ?_ _ | refine bel_trans ?_ (by assumption)))))
      (try simp only [Act.put, List.setIfInBounds_toArray, List.set_cons_zero, List.set_cons_succ])
      exact L2_168 _ v33 v36 v38 v39 (.slice (some ⟨WW.heap.size, 0, none⟩) 0 0) (by repeat (first | exact Below.refl _ _ | assumption | refine bel_drew ?_ | refine bel_drewN ?_ _ | refine bel_alloc ?_ _ | refine bel_trans ?_ (by assumption))) ((Own2.lit (d := 40) ho hb.size (by simp) (own_emptyI WW)).sub (by simp))
    · go_simp; refine hKW.out _ _ ?_ (fun hHeld => ?_); (focus ((try dsimp only); exact hS.out _ (by repeat (first | exact Below.refl _ _ | assumption | refine bel_drew ?_ | refine bel_drewN ?_ _ | refine bel_alloc ?_ _ | refine bel_trans ?_ (by assumption)))))
      (try simp only [Act.put, List.setIfInBounds_toArray, List.set_cons_zero, List.set_cons_succ])
      exact L2_1613 _ v33 v36 v38 v39 (.slice (some ⟨WW.heap.size, 0, none⟩) 1 1) (by repeat (first | exact Below.refl _ _ | assumption | refine bel_drew ?_ | refine bel_drewN ?_ _ | refine bel_alloc ?_ _ | refine bel_trans ?_ (by assumption))) ((Own2.lit (d := 45) ho hb.size (by simp) (own_oneI2 WW ((-1) : Int))).sub (by simp))
  have L1_16813 : ∀ (WW : World) (v33 v36 v38 v40 v45 : Value), Below W6.heap.size W6 WW → Own2 W6.heap.size WW [(36, v36, ([] ++ (ints N))), (38, v38, [(p : Int)]), (40, v40, []), (45, v45, [((-1) : Int)])] → wpAnyH Try.prog .any OPS Q' (fun W : World => W.cell? ⟨u1.heap.size, 0, none⟩ = some (.slice Ao' n co') ∧ W.cell? ⟨u1.heap.size, 1, none⟩ = some (.slice Ag' n cg') ∧ W.cell? ⟨u1.heap.size, 2, none⟩ = some (.slice Ac' m' cc') ∧ W.cell? ⟨u1.heap.size, 3, none⟩ = some (.int .i64 (fr' : Int)) ∧ W.cell? ⟨w.heap.size, 4, none⟩ = some (.slice An N.length cn) ∧ W.cell? ⟨w.heap.size, 5, none⟩ = some (.slice Ap N.length cp)) 8 #[true, true, true, true, true, true, true, false, true, true, true, false, true, true, false, false, true, true, false, false, false, false] (((((a0.put (some 33) v33).put (some 36) v36).put (some 38) v38).put (some 40) v40).put (some 45) v45) WW := by
    intro WW v33 v36 v38 v40 v45 hb ho
    subst hO
    subst ha
    simp only [Act.put, List.setIfInBounds_toArray, List.set_cons_zero, List.set_cons_succ] at L2_16813
    (try simp only [Act.put, List.setIfInBounds_toArray, List.set_cons_zero, List.set_cons_succ])
    refine wpAnyH_ready (rs := [7]) (by kernel_rfl) (by simp) (ready_cons (i := 7) rfl (by kernel_rfl) (fun KW hKW => ?_) (AllReadyH.nil))
    · obtain ⟨Ax, cx, rfl, ix, -, -⟩ := (ho.own (d := 38) (v := v38) (l := [(p : Int)]) (by simp)).ints
      refine app_operI2 (.tmp 36) (.tmp 38) rfl W6.heap.size v36 ([] ++ (ints N)) rfl (ho.own (d := 36) (v := v36) (l := ([] ++ (ints N))) (by simp)) Ax ([(p : Int)] : List Int).length cx [(p : Int)] rfl ix.srcI HL2.out hb.size ?_
      intro v9 W9 ho9 hb9 hoth hor hsz
      have hb2 := hb.trans hb9
      refine hKW.out _ _ ?_ (fun hHeld => ?_); (focus ((try dsimp only); exact hS.out _ hb2))
      (try simp only [Act.put, List.setIfInBounds_toArray, List.set_cons_zero, List.set_cons_succ])
      exact L2_16813 _ v33 v36 _ v9 v40 v45 hb2 ((Own2.app (d0 := 36) (v0 := v36) (l0 := ([] ++ (ints N))) (d := 39) (L' := [(40, v40, []), (45, v45, [((-1) : Int)])]) ho (by simp) ho9 hoth hor (by simp)).sub (by simp))
  have L1_168 : ∀ (WW : World) (v33 v36 v38 v40 : Value), Below W6.heap.size W6 WW → Own2 W6.heap.size WW [(36, v36, ([] ++ (ints N))), (38, v38, [(p : Int)]), (40, v40, [])] → wpAnyH Try.prog .any OPS Q' (fun W : World => W.cell? ⟨u1.heap.size, 0, none⟩ = some (.slice Ao' n co') ∧ W.cell? ⟨u1.heap.size, 1, none⟩ = some (.slice Ag' n cg') ∧ W.cell? ⟨u1.heap.size, 2, none⟩ = some (.slice Ac' m' cc') ∧ W.cell? ⟨u1.heap.size, 3, none⟩ = some (.int .i64 (fr' : Int)) ∧ W.cell? ⟨w.heap.size, 4, none⟩ = some (.slice An N.length cn) ∧ W.cell? ⟨w.heap.size, 5, none⟩ = some (.slice Ap N.length cp)) 9 #[true, true, true, true, true, true, true, false, true, true, true, false, true, false, false, false, true, true, false, false, false, false] ((((a0.put (some 33) v33).put (some 36) v36).put (some 38) v38).put (some 40) v40) WW := by
    intro WW v33 v36 v38 v40 hb ho
    subst hO
    subst ha
    simp only [Act.put, List.setIfInBounds_toArray, List.set_cons_zero, List.set_cons_succ] at L2_168
    simp only [Act.put, List.setIfInBounds_toArray, List.set_cons_zero, List.set_cons_succ] at L1_16813
    (try simp only [Act.put, List.setIfInBounds_toArray, List.set_cons_zero, List.set_cons_succ])
    refine wpAnyH_ready (rs := [7, 13]) (by kernel_rfl) (by simp) (ready_cons (i := 7) rfl (by kernel_rfl) (fun KW hKW => ?_) (ready_cons (i := 13) rfl (by kernel_rfl) (fun KW hKW => ?_) (AllReadyH.nil)))
    · obtain ⟨Ax, cx, rfl, ix, -, -⟩ := (ho.own (d := 38) (v := v38) (l := [(p : Int)]) (by simp)).ints
      refine app_operI2 (.tmp 36) (.tmp 38) rfl W6.heap.size v36 ([] ++ (ints N)) rfl (ho.own (d := 36) (v := v36) (l := ([] ++ (ints N))) (by simp)) Ax ([(p : Int)] : List Int).length cx [(p : Int)] rfl ix.srcI HL2.out hb.size ?_
      intro v9 W9 ho9 hb9 hoth hor hsz
      have hb2 := hb.trans hb9
      refine hKW.out _ _ ?_ (fun hHeld => ?_); (focus ((try dsimp only); exact hS.out _ hb2))
      (try simp only [Act.put, List.setIfInBounds_toArray, List.set_cons_zero, List.set_cons_succ])
      exact L2_168 _ v33 v36 _ v9 v40 hb2 ((Own2.app (d0 := 36) (v0 := v36) (l0 := ([] ++ (ints N))) (d := 39) (L' := [(40, v40, [])]) ho (by simp) ho9 hoth hor (by simp)).sub (by simp))
    · go_simp; refine hKW.out _ _ ?_ (fun hHeld => ?_); (focus ((try dsimp only); exact hS.out _ (by repeat (first | exact Below.refl _ _ | assumption | refine bel_drew ?_ | refine bel_drewN ?_ _ | refine bel_alloc ?_ _ | refine bel_trans ?_ (by assumption)))))
      (try simp only [Act.put, List.setIfInBounds_toArray, List.set_cons_zero, List.set_cons_succ])
      exact L1_16813 _ v33 v36 v38 v40 (.slice (some ⟨WW.heap.size, 0, none⟩) 1 1) (by repeat (first | exact Below.refl _ _ | assumption | refine bel_drew ?_ | refine bel_drewN ?_ _ | refine bel_alloc ?_ _ | refine bel_trans ?_ (by assumption))) ((Own2.lit (d := 45) ho hb.size (by simp) (own_oneI2 WW ((-1) : Int))).sub (by simp))
  have L1_1613 : ∀ (WW : World) (v33 v36 v38 v45 : Value), Below W6.heap.size W6 WW → Own2 W6.heap.size WW [(36, v36, ([] ++ (ints N))), (38, v38, [(p : Int)]), (45, v45, [((-1) : Int)])] → wpAnyH Try.prog .any OPS Q' (fun W : World => W.cell? ⟨u1.heap.size, 0, none⟩ = some (.slice Ao' n co') ∧ W.cell? ⟨u1.heap.size, 1, none⟩ = some (.slice Ag' n cg') ∧ W.cell? ⟨u1.heap.size, 2, none⟩ = some (.slice Ac' m' cc') ∧ W.cell? ⟨u1.heap.size, 3, none⟩ = some (.int .i64 (fr' : Int)) ∧ W.cell? ⟨w.heap.size, 4, none⟩ = some (.slice An N.length cn) ∧ W.cell? ⟨w.heap.size, 5, none⟩ = some (.slice Ap N.length cp)) 9 #[true, true, true, true, true, true, true, false, false, true, true, false, true, true, false, false, true, true, false, false, false, false] ((((a0.put (some 33) v33).put (some 36) v36).put (some 38) v38).put (some 45) v45) WW := by
    intro WW v33 v36 v38 v45 hb ho
    subst hO
    subst ha
    simp only [Act.put, List.setIfInBounds_toArray, List.set_cons_zero, List.set_cons_succ] at L2_1613
    simp only [Act.put, List.setIfInBounds_toArray, List.set_cons_zero, List.set_cons_succ] at L1_16813
    (try simp only [Act.put, List.setIfInBounds_toArray, List.set_cons_zero, List.set_cons_succ])
    refine wpAnyH_ready (rs := [7, 8]) (by kernel_rfl) (by simp) (ready_cons (i := 7) rfl (by kernel_rfl) (fun KW hKW => ?_) (ready_cons (i := 8) rfl (by kernel_rfl) (fun KW hKW => ?_) (AllReadyH.nil)))
    · obtain ⟨Ax, cx, rfl, ix, -, -⟩ := (ho.own (d := 38) (v := v38) (l := [(p : Int)]) (by simp)).ints
      refine app_operI2 (.tmp 36) (.tmp 38) rfl W6.heap.size v36 ([] ++ (ints N)) rfl (ho.own (d := 36) (v := v36) (l := ([] ++ (ints N))) (by simp)) Ax ([(p : Int)] : List Int).length cx [(p : Int)] rfl ix.srcI HL2.out hb.size ?_
      intro v9 W9 ho9 hb9 hoth hor hsz
      have hb2 := hb.trans hb9
      refine hKW.out _ _ ?_ (fun hHeld => ?_); (focus ((try dsimp only); exact hS.out _ hb2))
      (try simp only [Act.put, List.setIfInBounds_toArray, List.set_cons_zero, List.set_cons_succ])
      exact L2_1613 _ v33 v36 _ v9 v45 hb2 ((Own2.app (d0 := 36) (v0 := v36) (l0 := ([] ++ (ints N))) (d := 39) (L' := [(45, v45, [((-1) : Int)])]) ho (by simp) ho9 hoth hor (by simp)).sub (by simp))
    · go_simp; refine hKW.out _ _ ?_ (fun hHeld => ?_); (focus ((try dsimp only); exact hS.out _ (by repeat (first | exact Below.refl _ _ | assumption | refine bel_drew ?_ | refine bel_drewN ?_ _ | refine bel_alloc ?_ _ | refine bel_trans ?_ (by assumption)))))
      (try simp only [Act.put, List.setIfInBounds_toArray, List.set_cons_zero, List.set_cons_succ])
      exact L1_16813 _ v33 v36 v38 (.slice (some ⟨WW.heap.size, 0, none⟩) 0 0) v45 (by repeat (first | exact Below.refl _ _ | assumption | refine bel_drew ?_ | refine bel_drewN ?_ _ | refine bel_alloc ?_ _ | refine bel_trans ?_ (by assumption))) ((Own2.lit (d := 40) ho hb.size (by simp) (own_emptyI WW)).sub (by simp))
  have L1_16 : ∀ (WW : World) (v33 v36 v38 : Value), Below W6.heap.size W6 WW → Own2 W6.heap.size WW [(36, v36, ([] ++ (ints N))), (38, v38, [(p : Int)])] → wpAnyH Try.prog .any OPS Q' (fun W : World => W.cell? ⟨u1.heap.size, 0, none⟩ = some (.slice Ao' n co') ∧ W.cell? ⟨u1.heap.size, 1, none⟩ = some (.slice Ag' n cg') ∧ W.cell? ⟨u1.heap.size, 2, none⟩ = some (.slice Ac' m' cc') ∧ W.cell? ⟨u1.heap.size, 3, none⟩ = some (.int .i64 (fr' : Int)) ∧ W.cell? ⟨w.heap.size, 4, none⟩ = some (.slice An N.length cn) ∧ W.cell? ⟨w.heap.size, 5, none⟩ = some (.slice Ap N.length cp)) 10 #[true, true, true, true, true, true, true, false, false, true, true, false, true, false, false, false, true, true, false, false, false, false] (((a0.put (some 33) v33).put (some 36) v36).put (some 38) v38) WW := by
    intro WW v33 v36 v38 hb ho
    subst hO
    subst ha
    simp only [Act.put, List.setIfInBounds_toArray, List.set_cons_zero, List.set_cons_succ] at L2_16
    simp only [Act.put, List.setIfInBounds_toArray, List.set_cons_zero, List.set_cons_succ] at L1_168
    simp only [Act.put, List.setIfInBounds_toArray, List.set_cons_zero, List.set_cons_succ] at L1_1613
    (try simp only [Act.put, List.setIfInBounds_toArray, List.set_cons_zero, List.set_cons_succ])
    refine wpAnyH_ready (rs := [7, 8, 13]) (by kernel_rfl) (by simp) (ready_cons (i := 7) rfl (by kernel_rfl) (fun KW hKW => ?_) (ready_cons (i := 8) rfl (by kernel_rfl) (fun KW hKW => ?_) (ready_cons (i := 13) rfl (by kernel_rfl) (fun KW hKW => ?_) (AllReadyH.nil))))
    · obtain ⟨Ax, cx, rfl, ix, -, -⟩ := (ho.own (d := 38) (v := v38) (l := [(p : Int)]) (by simp)).ints
      refine app_operI2 (.tmp 36) (.tmp 38) rfl W6.heap.size v36 ([] ++ (ints N)) rfl (ho.own (d := 36) (v := v36) (l := ([] ++ (ints N))) (by simp)) Ax ([(p : Int)] : List Int).length cx [(p : Int)] rfl ix.srcI HL2.out hb.size ?_
      intro v9 W9 ho9 hb9 hoth hor hsz
      have hb2 := hb.trans hb9
      refine hKW.out _ _ ?_ (fun hHeld => ?_); (focus ((try dsimp only); exact hS.out _ hb2))
      (try simp only [Act.put, List.setIfInBounds_toArray, List.set_cons_zero, List.set_cons_succ])
      exact L2_16 _ v33 v36 _ v9 hb2 ((Own2.app (d0 := 36) (v0 := v36) (l0 := ([] ++ (ints N))) (d := 39) (L' := []) ho (by simp) ho9 hoth hor (by simp)).sub (by simp))
    · go_simp; refine hKW.out _ _ ?_ (fun hHeld => ?_); (focus ((try dsimp only); exact hS.out _ (by repeat (first | exact Below.refl _ _ | assumption | refine bel_drew ?_ | refine bel_drewN ?_ _ | refine bel_alloc ?_ _ | refine bel_trans ?_ (by assumption)))))
      (try simp only [Act.put, List.setIfInBounds_toArray, List.set_cons_zero, List.set_cons_succ])
      exact L1_168 _ v33 v36 v38 (.slice (some ⟨WW.heap.size, 0, none⟩) 0 0) (by repeat (first | exact Below.refl _ _ | assumption | refine bel_drew ?_ | refine bel_drewN ?_ _ | refine bel_alloc ?_ _ | refine bel_trans ?_ (by assumption))) ((Own2.lit (d := 40) ho hb.size (by simp) (own_emptyI WW)).sub (by simp))
    · go_simp; refine hKW.out _ _ ?_ (fun hHeld => ?_); (focus ((try dsimp only); exact hS.out _ (by repeat (first | exact Below.refl _ _ | assumption | refine bel_drew ?_ | refine bel_drewN ?_ _ | refine bel_alloc ?_ _ | refine bel_trans ?_ (by assumption)))))
      (try simp only [Act.put, List.setIfInBounds_toArray, List.set_cons_zero, List.set_cons_succ])
      exact L1_1613 _ v33 v36 v38 (.slice (some ⟨WW.heap.size, 0, none⟩) 1 1) (by repeat (first | exact Below.refl _ _ | assumption | refine bel_drew ?_ | refine bel_drewN ?_ _ | refine bel_alloc ?_ _ | refine bel_trans ?_ (by assumption))) ((Own2.lit (d := 45) ho hb.size (by simp) (own_oneI2 WW ((-1) : Int))).sub (by simp))
  have L1_1813 : ∀ (WW : World) (v33 v36 v40 v45 : Value), Below W6.heap.size W6 WW → Own2 W6.heap.size WW [(36, v36, ([] ++ (ints N))), (40, v40, []), (45, v45, [((-1) : Int)])] → wpAnyH Try.prog .any OPS Q' (fun W : World => W.cell? ⟨u1.heap.size, 0, none⟩ = some (.slice Ao' n co') ∧ W.cell? ⟨u1.heap.size, 1, none⟩ = some (.slice Ag' n cg') ∧ W.cell? ⟨u1.heap.size, 2, none⟩ = some (.slice Ac' m' cc') ∧ W.cell? ⟨u1.heap.size, 3, none⟩ = some (.int .i64 (fr' : Int)) ∧ W.cell? ⟨w.heap.size, 4, none⟩ = some (.slice An N.length cn) ∧ W.cell? ⟨w.heap.size, 5, none⟩ = some (.slice Ap N.length cp)) 9 #[true, true, true, true, true, true, false, false, true, true, true, false, true, true, false, false, true, true, false, false, false, false] ((((a0.put (some 33) v33).put (some 36) v36).put (some 40) v40).put (some 45) v45) WW := by
    intro WW v33 v36 v40 v45 hb ho
    subst hO
    subst ha
    simp only [Act.put, List.setIfInBounds_toArray, List.set_cons_zero, List.set_cons_succ] at L1_16813
    (try simp only [Act.put, List.setIfInBounds_toArray, List.set_cons_zero, List.set_cons_succ])
    refine wpAnyH_ready (rs := [6]) (by kernel_rfl) (by simp) (ready_cons (i := 6) rfl (by kernel_rfl) (fun KW hKW => ?_) (AllReadyH.nil))
    · go_simp; refine hKW.out _ _ ?_ (fun hHeld => ?_); (focus ((try dsimp only); exact hS.out _ (by repeat (first | exact Below.refl _ _ | assumption | refine bel_drew ?_ | refine bel_drewN ?_ _ | refine bel_alloc ?_ _ | refine bel_trans ?_ (by assumption)))))
      (try simp only [Act.put, List.setIfInBounds_toArray, List.set_cons_zero, List.set_cons_succ])
      exact L1_16813 _ v33 v36 (.slice (some ⟨WW.heap.size, 0, none⟩) 1 1) v40 v45 (by repeat (first | exact Below.refl _ _ | assumption | refine bel_drew ?_ | refine bel_drewN ?_ _ | refine bel_alloc ?_ _ | refine bel_trans ?_ (by assumption))) ((Own2.lit (d := 38) ho hb.size (by simp) (own_oneI2 WW (p : Int))).sub (by simp))
  have L1_18 : ∀ (WW : World) (v33 v36 v40 : Value), Below W6.heap.size W6 WW → Own2 W6.heap.size WW [(36, v36, ([] ++ (ints N))), (40, v40, [])] → wpAnyH Try.prog .any OPS Q' (fun W : World => W.cell? ⟨u1.heap.size, 0, none⟩ = some (.slice Ao' n co') ∧ W.cell? ⟨u1.heap.size, 1, none⟩ = some (.slice Ag' n cg') ∧ W.cell? ⟨u1.heap.size, 2, none⟩ = some (.slice Ac' m' cc') ∧ W.cell? ⟨u1.heap.size, 3, none⟩ = some (.int .i64 (fr' : Int)) ∧ W.cell? ⟨w.heap.size, 4, none⟩ = some (.slice An N.length cn) ∧ W.cell? ⟨w.heap.size, 5, none⟩ = some (.slice Ap N.length cp)) 10 #[true, true, true, true, true, true, false, false, true, true, true, false, true, false, false, false, true, true, false, false, false, false] (((a0.put (some 33) v33).put (some 36) v36).put (some 40) v40) WW := by
    intro WW v33 v36 v40 hb ho
    subst hO
    subst ha
    simp only [Act.put, List.setIfInBounds_toArray, List.set_cons_zero, List.set_cons_succ] at L1_168
    simp only [Act.put, List.setIfInBounds_toArray, List.set_cons_zero, List.set_cons_succ] at L1_1813
    (try simp only [Act.put, List.setIfInBounds_toArray, List.set_cons_zero, List.set_cons_succ])
    refine wpAnyH_ready (rs := [6, 13]) (by kernel_rfl) (by simp) (ready_cons (i := 6) rfl (by kernel_rfl) (fun KW hKW => ?_) (ready_cons (i := 13) rfl (by kernel_rfl) (fun KW hKW => ?_) (AllReadyH.nil)))
    · go_simp; refine hKW.out _ _ ?_ (fun hHeld => ?_); (focus ((try dsimp only); exact hS.out _ (by repeat (first | exact Below.refl _ _ | assumption | refine bel_drew ?_ | refine bel_drewN ?_ _ | refine bel_alloc ?_ _ | refine bel_trans ?_ (by assumption)))))
      (try simp only [Act.put, List.setIfInBounds_toArray, List.set_cons_zero, List.set_cons_succ])
      exact L1_168 _ v33 v36 (.slice (some ⟨WW.heap.size, 0, none⟩) 1 1) v40 (by repeat (first | exact Below.refl _ _ | assumption | refine bel_drew ?_ | refine bel_drewN ?_ _ | refine bel_alloc ?_ _ | refine bel_trans ?_ (by assumption))) ((Own2.lit (d := 38) ho hb.size (by simp) (own_oneI2 WW (p : Int))).sub (by simp))
    · go_simp; refine hKW.out _ _ ?_ (fun hHeld => ?_); (focus ((try dsimp only); exact hS.out _ (by repeat (first | exact Below.refl _ _ | assumption | refine bel_drew ?_ | refine bel_drewN ?_ _ | refine bel_alloc ?_ _ | refine bel_trans ?_ (by assumption)))))
      (try simp only [Act.put, List.setIfInBounds_toArray, List.set_cons_zero, List.set_cons_succ])
      exact L1_1813 _ v33 v36 v40 (.slice (some ⟨WW.heap.size, 0, none⟩) 1 1) (by repeat (first | exact Below.refl _ _ | assumption | refine bel_drew ?_ | refine bel_drewN ?_ _ | refine bel_alloc ?_ _ | refine bel_trans ?_ (by assumption))) ((Own2.lit (d := 45) ho hb.size (by simp) (own_oneI2 WW ((-1) : Int))).sub (by simp))
  have L1_113 : ∀ (WW : World) (v33 v36 v45 : Value), Below W6.heap.size W6 WW → Own2 W6.heap.size WW [(36, v36, ([] ++ (ints N))), (45, v45, [((-1) : Int)])] → wpAnyH Try.prog .any OPS Q' (fun W : World => W.cell? ⟨u1.heap.size, 0, none⟩ = some (.slice Ao' n co') ∧ W.cell? ⟨u1.heap.size, 1, none⟩ = some (.slice Ag' n cg') ∧ W.cell? ⟨u1.heap.size, 2, none⟩ = some (.slice Ac' m' cc') ∧ W.cell? ⟨u1.heap.size, 3, none⟩ = some (.int .i64 (fr' : Int)) ∧ W.cell? ⟨w.heap.size, 4, none⟩ = some (.slice An N.length cn) ∧ W.cell? ⟨w.heap.size, 5, none⟩ = some (.slice Ap N.length cp)) 10 #[true, true, true, true, true, true, false, false, false, true, true, false, true, true, false, false, true, true, false, false, false, false] (((a0.put (some 33) v33).put (some 36) v36).put (some 45) v45) WW := by
    intro WW v33 v36 v45 hb ho
    subst hO
    subst ha
    simp only [Act.put, List.setIfInBounds_toArray, List.set_cons_zero, List.set_cons_succ] at L1_1613
    simp only [Act.put, List.setIfInBounds_toArray, List.set_cons_zero, List.set_cons_succ] at L1_1813
    (try simp only [Act.put, List.setIfInBounds_toArray, List.set_cons_zero, List.set_cons_succ])
    refine wpAnyH_ready (rs := [6, 8]) (by kernel_rfl) (by simp) (ready_cons (i := 6) rfl (by kernel_rfl) (fun KW hKW => ?_) (ready_cons (i := 8) rfl (by kernel_rfl) (fun KW hKW => ?_) (AllReadyH.nil)))
    · go_simp; refine hKW.out _ _ ?_ (fun hHeld => ?_); (focus ((try dsimp only); exact hS.out _ (by repeat (first | exact Below.refl _ _ | assumption | refine bel_drew ?_ | refine bel_drewN ?_ _ | refine bel_alloc ?_ _ | refine bel_trans ?_ (by assumption)))))
      (try simp only [Act.put, List.setIfInBounds_toArray, List.set_cons_zero, List.set_cons_succ])
      exact L1_1613 _ v33 v36 (.slice (some ⟨WW.heap.size, 0, none⟩) 1 1) v45 (by repeat (first | exact Below.refl _ _ | assumption | refine bel_drew ?_ | refine bel_drewN ?_ _ | refine bel_alloc ?_ _ | refine bel_trans ?_ (by assumption))) ((Own2.lit (d := 38) ho hb.size (by simp) (own_oneI2 WW (p : Int))).sub (by simp))
    · go_simp; refine hKW.out _ _ ?_ (fun hHeld => ?_); (focus ((try dsimp only); exact hS.out _ (by repeat (first | exact Below.refl _ _ | assumption | refine bel_drew ?_ | refine bel_drewN ?_ _ | refine bel_alloc ?_ _ | refine bel_trans ?_ (by assumption)))))
      (try simp only [Act.put, List.setIfInBounds_toArray, List.set_cons_zero, List.set_cons_succ])
      exact L1_1813 _ v33 v36 (.slice (some ⟨WW.heap.size, 0, none⟩) 0 0) v45 (by repeat (first | exact Below.refl _ _ | assumption | refine bel_drew ?_ | refine bel_drewN ?_ _ | refine bel_alloc ?_ _ | refine bel_trans ?_ (by assumption))) ((Own2.lit (d := 40) ho hb.size (by simp) (own_emptyI WW)).sub (by simp))
  have L1_1 : ∀ (WW : World) (v33 v36 : Value), Below W6.heap.size W6 WW → Own2 W6.heap.size WW [(36, v36, ([] ++ (ints N)))] → wpAnyH Try.prog .any OPS Q' (fun W : World => W.cell? ⟨u1.heap.size, 0, none⟩ = some (.slice Ao' n co') ∧ W.cell? ⟨u1.heap.size, 1, none⟩ = some (.slice Ag' n cg') ∧ W.cell? ⟨u1.heap.size, 2, none⟩ = some (.slice Ac' m' cc') ∧ W.cell? ⟨u1.heap.size, 3, none⟩ = some (.int .i64 (fr' : Int)) ∧ W.cell? ⟨w.heap.size, 4, none⟩ = some (.slice An N.length cn) ∧ W.cell? ⟨w.heap.size, 5, none⟩ = some (.slice Ap N.length cp)) 11 #[true, true, true, true, true, true, false, false, false, true, true, false, true, false, false, false, true, true, false, false, false, false] ((a0.put (some 33) v33).put (some 36) v36) WW := by
    intro WW v33 v36 hb ho
    subst hO
    subst ha
    simp only [Act.put, List.setIfInBounds_toArray, List.set_cons_zero, List.set_cons_succ] at L1_16
    simp only [Act.put, List.setIfInBounds_toArray, List.set_cons_zero, List.set_cons_succ] at L1_18
    simp only [Act.put, List.setIfInBounds_toArray, List.set_cons_zero, List.set_cons_succ] at L1_113
    (try simp only [Act.put, List.setIfInBounds_toArray, List.set_cons_zero, List.set_cons_succ])
    refine wpAnyH_ready (rs := [6, 8, 13]) (by kernel_rfl) (by simp) (ready_cons (i := 6) rfl (by kernel_rfl) (fun KW hKW => ?_) (ready_cons (i := 8) rfl (by kernel_rfl) (fun KW hKW => ?_) (ready_cons (i := 13) rfl (by kernel_rfl) (fun KW hKW => ?_) (AllReadyH.nil))))
    · go_simp; refine hKW.out _ _ ?_ (fun hHeld => ?_); (focus ((try dsimp only); exact hS.out _ (by repeat (first | exact Below.refl _ _ | assumption | refine bel_drew ?_ | refine bel_drewN ?_ _ | refine bel_alloc ?_ _ | refine bel_trans ?_ (by assumption)))))
      (try simp only [Act.put, List.setIfInBounds_toArray, List.set_cons_zero, List.set_cons_succ])
      exact L1_16 _ v33 v36 (.slice (some ⟨WW.heap.size, 0, none⟩) 1 1) (by repeat (first | exact Below.refl _ _ | assumption | refine bel_drew ?_ | refine bel_drewN ?_ _ | refine bel_alloc ?_ _ | refine bel_trans ?_ (by assumption))) ((Own2.lit (d := 38) ho hb.size (by simp) (own_oneI2 WW (p : Int))).sub (by simp))
    · go_simp; refine hKW.out _ _ ?_ (fun hHeld => ?_); (focus ((try dsimp only); exact hS.out _ (by repeat (first | exact Below.refl _ _ | assumption | refine bel_drew ?_ | refine bel_drewN ?_ _ | refine bel_alloc ?_ _ | refine bel_trans ?_ (by assumption)))))
      (try simp only [Act.put, List.setIfInBounds_toArray, List.set_cons_zero, List.set_cons_succ])
      exact L1_18 _ v33 v36 (.slice (some ⟨WW.heap.size, 0, none⟩) 0 0) (by repeat (first | exact Below.refl _ _ | assumption | refine bel_drew ?_ | refine bel_drewN ?_ _ | refine bel_alloc ?_ _ | refine bel_trans ?_ (by assumption))) ((Own2.lit (d := 40) ho hb.size (by simp) (own_emptyI WW)).sub (by simp))
    · go_simp; refine hKW.out _ _ ?_ (fun hHeld => ?_); (focus ((try dsimp only); exact hS.out _ (by repeat (first | exact Below.refl _ _ | assumption | refine bel_drew ?_ | refine bel_drewN ?_ _ | refine bel_alloc ?_ _ | refine bel_trans ?_ (by assumption)))))
      (try simp only [Act.put, List.setIfInBounds_toArray, List.set_cons_zero, List.set_cons_succ])
      exact L1_113 _ v33 v36 (.slice (some ⟨WW.heap.size, 0, none⟩) 1 1) (by repeat (first | exact Below.refl _ _ | assumption | refine bel_drew ?_ | refine bel_drewN ?_ _ | refine bel_alloc ?_ _ | refine bel_trans ?_ (by assumption))) ((Own2.lit (d := 45) ho hb.size (by simp) (own_oneI2 WW ((-1) : Int))).sub (by simp))
  have L0_16813 : ∀ (WW : World) (v33 v38 v40 v45 : Value), Below W6.heap.size W6 WW → Own2 W6.heap.size WW [(33, v33, []), (38, v38, [(p : Int)]), (40, v40, []), (45, v45, [((-1) : Int)])] → wpAnyH Try.prog .any OPS Q' (fun W : World => W.cell? ⟨u1.heap.size, 0, none⟩ = some (.slice Ao' n co') ∧ W.cell? ⟨u1.heap.size, 1, none⟩ = some (.slice Ag' n cg') ∧ W.cell? ⟨u1.heap.size, 2, none⟩ = some (.slice Ac' m' cc') ∧ W.cell? ⟨u1.heap.size, 3, none⟩ = some (.int .i64 (fr' : Int)) ∧ W.cell? ⟨w.heap.size, 4, none⟩ = some (.slice An N.length cn) ∧ W.cell? ⟨w.heap.size, 5, none⟩ = some (.slice Ap N.length cp)) 9 #[true, true, true, true, false, true, true, false, true, true, true, false, true, true, false, false, true, true, false, false, false, false] ((((a0.put (some 33) v33).put (some 38) v38).put (some 40) v40).put (some 45) v45) WW := by
    intro WW v33 v38 v40 v45 hb ho
    subst hO
    subst ha
    simp only [Act.put, List.setIfInBounds_toArray, List.set_cons_zero, List.set_cons_succ] at L1_16813
    (try simp only [Act.put, List.setIfInBounds_toArray, List.set_cons_zero, List.set_cons_succ])
    refine wpAnyH_ready (rs := [4]) (by kernel_rfl) (by simp) (ready_cons (i := 4) rfl (by kernel_rfl) (fun KW hKW => ?_) (AllReadyH.nil))
    · refine app_operI2 (.tmp 33) (.tmp 35) rfl W6.heap.size v33 [] rfl (ho.own (d := 33) (v := v33) (l := []) (by simp)) An N.length cn (ints N) rfl (HN1.out _ hb) HL1.out hb.size ?_
      intro v9 W9 ho9 hb9 hoth hor hsz
      have hb2 := hb.trans hb9
      refine hKW.out _ _ ?_ (fun hHeld => ?_); (focus ((try dsimp only); exact hS.out _ hb2))
      (try simp only [Act.put, List.setIfInBounds_toArray, List.set_cons_zero, List.set_cons_succ])
      exact L1_16813 _ v33 v9 v38 v40 v45 hb2 ((Own2.app (d0 := 33) (v0 := v33) (l0 := []) (d := 36) (L' := [(38, v38, [(p : Int)]), (40, v40, []), (45, v45, [((-1) : Int)])]) ho (by simp) ho9 hoth hor (by simp)).sub (by simp))
  have L0_168 : ∀ (WW : World) (v33 v38 v40 : Value), Below W6.heap.size W6 WW → Own2 W6.heap.size WW [(33, v33, []), (38, v38, [(p : Int)]), (40, v40, [])] → wpAnyH Try.prog .any OPS Q' (fun W : World => W.cell? ⟨u1.heap.size, 0, none⟩ = some (.slice Ao' n co') ∧ W.cell? ⟨u1.heap.size, 1, none⟩ = some (.slice Ag' n cg') ∧ W.cell? ⟨u1.heap.size, 2, none⟩ = some (.slice Ac' m' cc') ∧ W.cell? ⟨u1.heap.size, 3, none⟩ = some (.int .i64 (fr' : Int)) ∧ W.cell? ⟨w.heap.size, 4, none⟩ = some (.slice An N.length cn) ∧ W.cell? ⟨w.heap.size, 5, none⟩ = some (.slice Ap N.length cp)) 10 #[true, true, true, true, false, true, true, false, true, true, true, false, true, false, false, false, true, true, false, false, false, false] (((a0.put (some 33) v33).put (some 38) v38).put (some 40) v40) WW := by
    intro WW v33 v38 v40 hb ho
    subst hO
    subst ha
    simp only [Act.put, List.setIfInBounds_toArray, List.set_cons_zero, List.set_cons_succ] at L1_168
    simp only [Act.put, List.setIfInBounds_toArray, List.set_cons_zero, List.set_cons_succ] at L0_16813
    (try simp only [Act.put, List.setIfInBounds_toArray, List.set_cons_zero, List.set_cons_succ])
    refine wpAnyH_ready (rs := [4, 13]) (by kernel_rfl) (by simp) (ready_cons (i := 4) rfl (by kernel_rfl) (fun KW hKW => ?_) (ready_cons (i := 13) rfl (by kernel_rfl) (fun KW hKW => ?_) (AllReadyH.nil)))
    · refine app_operI2 (.tmp 33) (.tmp 35) rfl W6.heap.size v33 [] rfl (ho.own (d := 33) (v := v33) (l := []) (by simp)) An N.length cn (ints N) rfl (HN1.out _ hb) HL1.out hb.size ?_
      intro v9 W9 ho9 hb9 hoth hor hsz
      have hb2 := hb.trans hb9
      refine hKW.out _ _ ?_ (fun hHeld => ?_); (focus ((try dsimp only); exact hS.out _ hb2))
      (try simp only [Act.put, List.setIfInBounds_toArray, List.set_cons_zero, List.set_cons_succ])
      exact L1_168 _ v33 v9 v38 v40 hb2 ((Own2.app (d0 := 33) (v0 := v33) (l0 := []) (d := 36) (L' := [(38, v38, [(p : Int)]), (40, v40, [])]) ho (by simp) ho9 hoth hor (by simp)).sub (by simp))
    · go_simp; refine hKW.out _ _ ?_ (fun hHeld => ?_); (focus ((try dsimp only); exact hS.out _ (by repeat (first | exact Below.refl _ _ | assumption | refine bel_drew ?_ | refine bel_drewN ?_ _ | refine bel_alloc ?_ _ | refine bel_trans ?_ (by assumption)))))
      (try simp only [Act.put, List.setIfInBounds_toArray, List.set_cons_zero, List.set_cons_succ])
      exact L0_16813 _ v33 v38 v40 (.slice (some ⟨WW.heap.size, 0, none⟩) 1 1) (by repeat (first | exact Below.refl _ _ | assumption | refine bel_drew ?_ | refine bel_drewN ?_ _ | refine bel_alloc ?_ _ | refine bel_trans ?_ (by assumption))) ((Own2.lit (d := 45) ho hb.size (by simp) (own_oneI2 WW ((-1) : Int))).sub (by simp))
  have L0_1613 : ∀ (WW : World) (v33 v38 v45 : Value), Below W6.heap.size W6 WW → Own2 W6.heap.size WW [(33, v33, []), (38, v38, [(p : Int)]), (45, v45, [((-1) : Int)])] → wpAnyH Try.prog .any OPS Q' (fun W : World => W.cell? ⟨u1.heap.size, 0, none⟩ = some (.slice Ao' n co') ∧ W.cell? ⟨u1.heap.size, 1, none⟩ = some (.slice Ag' n cg') ∧ W.cell? ⟨u1.heap.size, 2, none⟩ = some (.slice Ac' m' cc') ∧ W.cell? ⟨u1.heap.size, 3, none⟩ = some (.int .i64 (fr' : Int)) ∧ W.cell? ⟨w.heap.size, 4, none⟩ = some (.slice An N.length cn) ∧ W.cell? ⟨w.heap.size, 5, none⟩ = some (.slice Ap N.length cp)) 10 #[true, true, true, true, false, true, true, false, false, true, true, false, true, true, false, false, true, true, false, false, false, false] (((a0.put (some 33) v33).put (some 38) v38).put (some 45) v45) WW := by
    intro WW v33 v38 v45 hb ho
    subst hO
    subst ha
    simp only [Act.put, List.setIfInBounds_toArray, List.set_cons_zero, List.set_cons_succ] at L1_1613
    simp only [Act.put, List.setIfInBounds_toArray, List.set_cons_zero, List.set_cons_succ] at L0_16813
    (try simp only [Act.put, List.setIfInBounds_toArray, List.set_cons_zero, List.set_cons_succ])
    refine wpAnyH_ready (rs := [4, 8]) (by kernel_rfl) (by simp) (ready_cons (i := 4) rfl (by kernel_rfl) (fun KW hKW => ?_) (ready_cons (i := 8) rfl (by kernel_rfl) (fun KW hKW => ?_) (AllReadyH.nil)))
    · refine app_operI2 (.tmp 33) (.tmp 35) rfl W6.heap.size v33 [] rfl (ho.own (d := 33) (v := v33) (l := []) (by simp)) An N.length cn (ints N) rfl (HN1.out _ hb) HL1.out hb.size ?_
      intro v9 W9 ho9 hb9 hoth hor hsz
      have hb2 := hb.trans hb9
      refine hKW.out _ _ ?_ (fun hHeld => ?_); (focus ((try dsimp only); exact hS.out _ hb2))
      (try simp only [Act.put, List.setIfInBounds_toArray, List.set_cons_zero, List.set_cons_succ])
      exact L1_1613 _ v33 v9 v38 v45 hb2 ((Own2.app (d0 := 33) (v0 := v33) (l0 := []) (d := 36) (L' := [(38, v38, [(p : Int)]), (45, v45, [((-1) : Int)])]) ho (by simp) ho9 hoth hor (by simp)).sub (by simp))
    · go_simp; refine hKW.out _ _ ?_ (fun hHeld => ?_); (focus ((try dsimp only); exact hS.out _ (by repeat (first | exact Below.refl _ _ | assumption | refine bel_drew ?_ | refine bel_drewN ?_ _ | refine bel_alloc ?_ _ | refine bel_trans ?_ (by assumption)))))
      (try simp only [Act.put, List.setIfInBounds_toArray, List.set_cons_zero, List.set_cons_succ])
      exact L0_16813 _ v33 v38 (.slice (some ⟨WW.heap.size, 0, none⟩) 0 0) v45 (by repeat (first | exact Below.refl _ _ | assumption | refine bel_drew ?_ | refine bel_drewN ?_ _ | refine bel_alloc ?_ _ | refine bel_trans ?_ (by assumption))) ((Own2.lit (d := 40) ho hb.size (by simp) (own_emptyI WW)).sub (by simp))
  have L0_16 : ∀ (WW : World) (v33 v38 : Value), Below W6.heap.size W6 WW → Own2 W6.heap.size WW [(33, v33, []), (38, v38, [(p : Int)])] → wpAnyH Try.prog .any OPS Q' (fun W : World => W.cell? ⟨u1.heap.size, 0, none⟩ = some (.slice Ao' n co') ∧ W.cell? ⟨u1.heap.size, 1, none⟩ = some (.slice Ag' n cg') ∧ W.cell? ⟨u1.heap.size, 2, none⟩ = some (.slice Ac' m' cc') ∧ W.cell? ⟨u1.heap.size, 3, none⟩ = some (.int .i64 (fr' : Int)) ∧ W.cell? ⟨w.heap.size, 4, none⟩ = some (.slice An N.length cn) ∧ W.cell? ⟨w.heap.size, 5, none⟩ = some (.slice Ap N.length cp)) 11 #[true, true, true, true, false, true, true, false, false, true, true, false, true, false, false, false, true, true, false, false, false, false] ((a0.put (some 33) v33).put (some 38) v38) WW := by
    intro WW v33 v38 hb ho
    subst hO
    subst ha
    simp only [Act.put, List.setIfInBounds_toArray, List.set_cons_zero, List.set_cons_succ] at L1_16
    simp only [Act.put, List.setIfInBounds_toArray, List.set_cons_zero, List.set_cons_succ] at L0_168
    simp only [Act.put, List.setIfInBounds_toArray, List.set_cons_zero, List.set_cons_succ] at L0_1613
    (try simp only [Act.put, List.setIfInBounds_toArray, List.set_cons_zero, List.set_cons_succ])
    refine wpAnyH_ready (rs := [4, 8, 13]) (by kernel_rfl) (by simp) (ready_cons (i := 4) rfl (by kernel_rfl) (fun KW hKW => ?_) (ready_cons (i := 8) rfl (by kernel_rfl) (fun KW hKW => ?_) (ready_cons (i := 13) rfl (by kernel_rfl) (fun KW hKW => ?_) (AllReadyH.nil))))
    · refine app_operI2 (.tmp 33) (.tmp 35) rfl W6.heap.size v33 [] rfl (ho.own (d := 33) (v := v33) (l := []) (by simp)) An N.length cn (ints N) rfl (HN1.out _ hb) HL1.out hb.size ?_
      intro v9 W9 ho9 hb9 hoth hor hsz
      have hb2 := hb.trans hb9
      refine hKW.out _ _ ?_ (fun hHeld => ?_); (focus ((try dsimp only); exact hS.out _ hb2))
      (try simp only [Act.put, List.setIfInBounds_toArray, List.set_cons_zero, List.set_cons_succ])
      exact L1_16 _ v33 v9 v38 hb2 ((Own2.app (d0 := 33) (v0 := v33) (l0 := []) (d := 36) (L' := [(38, v38, [(p : Int)])]) ho (by simp) ho9 hoth hor (by simp)).sub (by simp))
    · go_simp; refine hKW.out _ _ ?_ (fun hHeld => ?_); (focus ((try dsimp only); exact hS.out _ (by repeat (first | exact Below.refl _ _ | assumption | refine bel_drew ?_ | refine bel_drewN ?_ _ | refine bel_alloc ?_ _ | refine bel_trans ?_ (by assumption)))))
      (try simp only [Act.put, List.setIfInBounds_toArray, List.set_cons_zero, List.set_cons_succ])
      exact L0_168 _ v33 v38 (.slice (some ⟨WW.heap.size, 0, none⟩) 0 0) (by repeat (first | exact Below.refl _ _ | assumption | refine bel_drew ?_ | refine bel_drewN ?_ _ | refine bel_alloc ?_ _ | refine bel_trans ?_ (by assumption))) ((Own2.lit (d := 40) ho hb.size (by simp) (own_emptyI WW)).sub (by simp))
    · go_simp; refine hKW.out _ _ ?_ (fun hHeld => ?_); (focus ((try dsimp only); exact hS.out _ (by repeat (first | exact Below.refl _ _ | assumption | refine bel_drew ?_ | refine bel_drewN ?_ _ | refine bel_alloc ?_ _ | refine bel_trans ?_ (by assumption)))))
      (try simp only [Act.put, List.setIfInBounds_toArray, List.set_cons_zero, List.set_cons_succ])
      exact L0_1613 _ v33 v38 (.slice (some ⟨WW.heap.size, 0, none⟩) 1 1) (by repeat (first | exact Below.refl _ _ | assumption | refine bel_drew ?_ | refine bel_drewN ?_ _ | refine bel_alloc ?_ _ | refine bel_trans ?_ (by assumption))) ((Own2.lit (d := 45) ho hb.size (by simp) (own_oneI2 WW ((-1) : Int))).sub (by simp))
  have L0_1813 : ∀ (WW : World) (v33 v40 v45 : Value), Below W6.heap.size W6 WW → Own2 W6.heap.size WW [(33, v33, []), (40, v40, []), (45, v45, [((-1) : Int)])] → wpAnyH Try.prog .any OPS Q' (fun W : World => W.cell? ⟨u1.heap.size, 0, none⟩ = some (.slice Ao' n co') ∧ W.cell? ⟨u1.heap.size, 1, none⟩ = some (.slice Ag' n cg') ∧ W.cell? ⟨u1.heap.size, 2, none⟩ = some (.slice Ac' m' cc') ∧ W.cell? ⟨u1.heap.size, 3, none⟩ = some (.int .i64 (fr' : Int)) ∧ W.cell? ⟨w.heap.size, 4, none⟩ = some (.slice An N.length cn) ∧ W.cell? ⟨w.heap.size, 5, none⟩ = some (.slice Ap N.length cp)) 10 #[true, true, true, true, false, true, false, false, true, true, true, false, true, true, false, false, true, true, false, false, false, false] (((a0.put (some 33) v33).put (some 40) v40).put (some 45) v45) WW := by
    intro WW v33 v40 v45 hb ho
    subst hO
    subst ha
    simp only [Act.put, List.setIfInBounds_toArray, List.set_cons_zero, List.set_cons_succ] at L1_1813
    simp only [Act.put, List.setIfInBounds_toArray, List.set_cons_zero, List.set_cons_succ] at L0_16813
    (try simp only [Act.put, List.setIfInBounds_toArray, List.set_cons_zero, List.set_cons_succ])
    refine wpAnyH_ready (rs := [4, 6]) (by kernel_rfl) (by simp) (ready_cons (i := 4) rfl (by kernel_rfl) (fun KW hKW => ?_) (ready_cons (i := 6) rfl (by kernel_rfl) (fun KW hKW => ?_) (AllReadyH.nil)))
    · refine app_operI2 (.tmp 33) (.tmp 35) rfl W6.heap.size v33 [] rfl (ho.own (d := 33) (v := v33) (l := []) (by simp)) An N.length cn (ints N) rfl (HN1.out _ hb) HL1.out hb.size ?_
      intro v9 W9 ho9 hb9 hoth hor hsz
      have hb2 := hb.trans hb9
      refine hKW.out _ _ ?_ (fun hHeld => ?_); (focus ((try dsimp only); exact hS.out _ hb2))
      (try simp only [Act.put, List.setIfInBounds_toArray, List.set_cons_zero, List.set_cons_succ])
      exact L1_1813 _ v33 v9 v40 v45 hb2 ((Own2.app (d0 := 33) (v0 := v33) (l0 := []) (d := 36) (L' := [(40, v40, []), (45, v45, [((-1) : Int)])]) ho (by simp) ho9 hoth hor (by simp)).sub (by simp))
    · go_simp; refine hKW.out _ _ ?_ (fun hHeld => ?_); (focus ((try dsimp only); exact hS.out _ (by repeat (first | exact Below.refl _ _ | assumption | refine bel_drew ?_ | refine bel_drewN ?_ _ | refine bel_alloc ?_ _ | refine bel_trans ?_ (by assumption)))))
      (try simp only [Act.put, List.setIfInBounds_toArray, List.set_cons_zero, List.set_cons_succ])
      exact L0_16813 _ v33 (.slice (some ⟨WW.heap.size, 0, none⟩) 1 1) v40 v45 (by repeat (first | exact Below.refl _ _ | assumption | refine bel_drew ?_ | refine bel_drewN ?_ _ | refine bel_alloc ?_ _ | refine bel_trans ?_ (by assumption))) ((Own2.lit (d := 38) ho hb.size (by simp) (own_oneI2 WW (p : Int))).sub (by simp))
  have L0_18 : ∀ (WW : World) (v33 v40 : Value), Below W6.heap.size W6 WW → Own2 W6.heap.size WW [(33, v33, []), (40, v40, [])] → wpAnyH Try.prog .any OPS Q' (fun W : World => W.cell? ⟨u1.heap.size, 0, none⟩ = some (.slice Ao' n co') ∧ W.cell? ⟨u1.heap.size, 1, none⟩ = some (.slice Ag' n cg') ∧ W.cell? ⟨u1.heap.size, 2, none⟩ = some (.slice Ac' m' cc') ∧ W.cell? ⟨u1.heap.size, 3, none⟩ = some (.int .i64 (fr' : Int)) ∧ W.cell? ⟨w.heap.size, 4, none⟩ = some (.slice An N.length cn) ∧ W.cell? ⟨w.heap.size, 5, none⟩ = some (.slice Ap N.length cp)) 11 #[true, true, true, true, false, true, false, false, true, true, true, false, true, false, false, false, true, true, false, false, false, false] ((a0.put (some 33) v33).put (some 40) v40) WW := by
    intro WW v33 v40 hb ho
    subst hO
    subst ha
    simp only [Act.put, List.setIfInBounds_toArray, List.set_cons_zero, List.set_cons_succ] at L1_18
    simp only [Act.put, List.setIfInBounds_toArray, List.set_cons_zero, List.set_cons_succ] at L0_168
    simp only [Act.put, List.setIfInBounds_toArray, List.set_cons_zero, List.set_cons_succ] at L0_1813
    (try simp only [Act.put, List.setIfInBounds_toArray, List.set_cons_zero, List.set_cons_succ])
    refine wpAnyH_ready (rs := [4, 6, 13]) (by kernel_rfl) (by simp) (ready_cons (i := 4) rfl (by kernel_rfl) (fun KW hKW => ?_) (ready_cons (i := 6) rfl (by kernel_rfl) (fun KW hKW => ?_) (ready_cons (i := 13) rfl (by kernel_rfl) (fun KW hKW => ?_) (AllReadyH.nil))))
    · refine app_operI2 (.tmp 33) (.tmp 35) rfl W6.heap.size v33 [] rfl (ho.own (d := 33) (v := v33) (l := []) (by simp)) An N.length cn (ints N) rfl (HN1.out _ hb) HL1.out hb.size ?_
      intro v9 W9 ho9 hb9 hoth hor hsz
      have hb2 := hb.trans hb9
      refine hKW.out _ _ ?_ (fun hHeld => ?_); (focus ((try dsimp only); exact hS.out _ hb2))
      (try simp only [Act.put, List.setIfInBounds_toArray, List.set_cons_zero, List.set_cons_succ])
      exact L1_18 _ v33 v9 v40 hb2 ((Own2.app (d0 := 33) (v0 := v33) (l0 := []) (d := 36) (L' := [(40, v40, [])]) ho (by simp) ho9 hoth hor (by simp)).sub (by simp))
    · go_simp; refine hKW.out _ _ ?_ (fun hHeld => ?_); (focus ((try dsimp only); exact hS.out _ (by repeat (first | exact Below.refl _ _ | assumption | refine bel_drew ?_ | refine bel_drewN ?_ _ | refine bel_alloc ?_ _ | refine bel_trans ?_ (by assumption)))))
      (try simp only [Act.put, List.setIfInBounds_toArray, List.set_cons_zero, List.set_cons_succ])
      exact L0_168 _ v33 (.slice (some ⟨WW.heap.size, 0, none⟩) 1 1) v40 (by repeat (first | exact Below.refl _ _ | assumption | refine bel_drew ?_ | refine bel_drewN ?_ _ | refine bel_alloc ?_ _ | refine bel_trans ?_ (by assumption))) ((Own2.lit (d := 38) ho hb.size (by simp) (own_oneI2 WW (p : Int))).sub (by simp))
    · go_simp; refine hKW.out _ _ ?_ (fun hHeld => ?_); (focus ((try dsimp only); exact hS.out _ (by repeat (first | exact Below.refl _ _ | assumption | refine bel_drew ?_ | refine bel_drewN ?_ _ | refine bel_alloc ?_ _ | refine bel_trans ?_ (by assumption)))))
      (try simp only [Act.put, List.setIfInBounds_toArray, List.set_cons_zero, List.set_cons_succ])
      exact L0_1813 _ v33 v40 (.slice (some ⟨WW.heap.size, 0, none⟩) 1 1) (by repeat (first | exact Below.refl _ _ | assumption | refine bel_drew ?_ | refine bel_drewN ?_ _ | refine bel_alloc ?_ _ | refine bel_trans ?_ (by assumption))) ((Own2.lit (d := 45) ho hb.size (by simp) (own_oneI2 WW ((-1) : Int))).sub (by simp))
  have L0_113 : ∀ (WW : World) (v33 v45 : Value), Below W6.heap.size W6 WW → Own2 W6.heap.size WW [(33, v33, []), (45, v45, [((-1) : Int)])] → wpAnyH Try.prog .any OPS Q' (fun W : World => W.cell? ⟨u1.heap.size, 0, none⟩ = some (.slice Ao' n co') ∧ W.cell? ⟨u1.heap.size, 1, none⟩ = some (.slice Ag' n cg') ∧ W.cell? ⟨u1.heap.size, 2, none⟩ = some (.slice Ac' m' cc') ∧ W.cell? ⟨u1.heap.size, 3, none⟩ = some (.int .i64 (fr' : Int)) ∧ W.cell? ⟨w.heap.size, 4, none⟩ = some (.slice An N.length cn) ∧ W.cell? ⟨w.heap.size, 5, none⟩ = some (.slice Ap N.length cp)) 11 #[true, true, true, true, false, true, false, false, false, true, true, false, true, true, false, false, true, true, false, false, false, false] ((a0.put (some 33) v33).put (some 45) v45) WW := by
    intro WW v33 v45 hb ho
    subst hO
    subst ha
    simp only [Act.put, List.setIfInBounds_toArray, List.set_cons_zero, List.set_cons_succ] at L1_113
    simp only [Act.put, List.setIfInBounds_toArray, List.set_cons_zero, List.set_cons_succ] at L0_1613
    simp only [Act.put, List.setIfInBounds_toArray, List.set_cons_zero, List.set_cons_succ] at L0_1813
    (try simp only [Act.put, List.setIfInBounds_toArray, List.set_cons_zero, List.set_cons_succ])
    refine wpAnyH_ready (rs := [4, 6, 8]) (by kernel_rfl) (by simp) (ready_cons (i := 4) rfl (by kernel_rfl) (fun KW hKW => ?_) (ready_cons (i := 6) rfl (by kernel_rfl) (fun KW hKW => ?_) (ready_cons (i := 8) rfl (by kernel_rfl) (fun KW hKW => ?_) (AllReadyH.nil))))
    · refine app_operI2 (.tmp 33) (.tmp 35) rfl W6.heap.size v33 [] rfl (ho.own (d := 33) (v := v33) (l := []) (by simp)) An N.length cn (ints N) rfl (HN1.out _ hb) HL1.out hb.size ?_
      intro v9 W9 ho9 hb9 hoth hor hsz
      have hb2 := hb.trans hb9
      refine hKW.out _ _ ?_ (fun hHeld => ?_); (focus ((try dsimp only); exact hS.out _ hb2))
      (try simp only [Act.put, List.setIfInBounds_toArray, List.set_cons_zero, List.set_cons_succ])
      exact L1_113 _ v33 v9 v45 hb2 ((Own2.app (d0 := 33) (v0 := v33) (l0 := []) (d := 36) (L' := [(45, v45, [((-1) : Int)])]) ho (by simp) ho9 hoth hor (by simp)).sub (by simp))
    · go_simp; refine hKW.out _ _ ?_ (fun hHeld => ?_); (focus ((try dsimp only); exact hS.out _ (by repeat (first | exact Below.refl _ _ | assumption | refine bel_drew ?_ | refine bel_drewN ?_ _ | refine bel_alloc ?_ _ | refine bel_trans ?_ (by assumption)))))
      (try simp only [Act.put, List.setIfInBounds_toArray, List.set_cons_zero, List.set_cons_succ])
      exact L0_1613 _ v33 (.slice (some ⟨WW.heap.size, 0, none⟩) 1 1) v45 (by repeat (first | exact Below.refl _ _ | assumption | refine bel_drew ?_ | refine bel_drewN ?_ _ | refine bel_alloc ?_ _ | refine bel_trans ?_ (by assumption))) ((Own2.lit (d := 38) ho hb.size (by simp) (own_oneI2 WW (p : Int))).sub (by simp))
    · go_simp; refine hKW.out _ _ ?_ (fun hHeld => ?_); (focus ((try dsimp only); exact hS.out _ (by repeat (first | exact Below.refl _ _ | assumption | refine bel_drew ?_ | refine bel_drewN ?_ _ | refine bel_alloc ?_ _ | refine bel_trans ?_ (by assumption)))))
      (try simp only [Act.put, List.setIfInBounds_toArray, List.set_cons_zero, List.set_cons_succ])
      exact L0_1813 _ v33 (.slice (some ⟨WW.heap.size, 0, none⟩) 0 0) v45 (by repeat (first | exact Below.refl _ _ | assumption | refine bel_drew ?_ | refine bel_drewN ?_ _ | refine bel_alloc ?_ _ | refine bel_trans ?_ (by assumption))) ((Own2.lit (d := 40) ho hb.size (by simp) (own_emptyI WW)).sub (by simp))
  have L0_1 : ∀ (WW : World) (v33 : Value), Below W6.heap.size W6 WW → Own2 W6.heap.size WW [(33, v33, [])] → wpAnyH Try.prog .any OPS Q' (fun W : World => W.cell? ⟨u1.heap.size, 0, none⟩ = some (.slice Ao' n co') ∧ W.cell? ⟨u1.heap.size, 1, none⟩ = some (.slice Ag' n cg') ∧ W.cell? ⟨u1.heap.size, 2, none⟩ = some (.slice Ac' m' cc') ∧ W.cell? ⟨u1.heap.size, 3, none⟩ = some (.int .i64 (fr' : Int)) ∧ W.cell? ⟨w.heap.size, 4, none⟩ = some (.slice An N.length cn) ∧ W.cell? ⟨w.heap.size, 5, none⟩ = some (.slice Ap N.length cp)) 12 #[true, true, true, true, false, true, false, false, false, true, true, false, true, false, false, false, true, true, false, false, false, false] (a0.put (some 33) v33) WW := by
    intro WW v33 hb ho
    subst hO
    subst ha
    simp only [Act.put, List.setIfInBounds_toArray, List.set_cons_zero, List.set_cons_succ] at L1_1
    simp only [Act.put, List.setIfInBounds_toArray, List.set_cons_zero, List.set_cons_succ] at L0_16
    simp only [Act.put, List.setIfInBounds_toArray, List.set_cons_zero, List.set_cons_succ] at L0_18
    simp only [Act.put, List.setIfInBounds_toArray, List.set_cons_zero, List.set_cons_succ] at L0_113
    (try simp only [Act.put, List.setIfInBounds_toArray, List.set_cons_zero, List.set_cons_succ])
    refine wpAnyH_ready (rs := [4, 6, 8, 13]) (by kernel_rfl) (by simp) (ready_cons (i := 4) rfl (by kernel_rfl) (fun KW hKW => ?_) (ready_cons (i := 6) rfl (by kernel_rfl) (fun KW hKW => ?_) (ready_cons (i := 8) rfl (by kernel_rfl) (fun KW hKW => ?_) (ready_cons (i := 13) rfl (by kernel_rfl) (fun KW hKW => ?_) (AllReadyH.nil)))))
    · refine app_operI2 (.tmp 33) (.tmp 35) rfl W6.heap.size v33 [] rfl (ho.own (d := 33) (v := v33) (l := []) (by simp)) An N.length cn (ints N) rfl (HN1.out _ hb) HL1.out hb.size ?_
      intro v9 W9 ho9 hb9 hoth hor hsz
      have hb2 := hb.trans hb9
      refine hKW.out _ _ ?_ (fun hHeld => ?_); (focus ((try dsimp only); exact hS.out _ hb2))
      (try simp only [Act.put, List.setIfInBounds_toArray, List.set_cons_zero, List.set_cons_succ])
      exact L1_1 _ v33 v9 hb2 ((Own2.app (d0 := 33) (v0 := v33) (l0 := []) (d := 36) (L' := []) ho (by simp) ho9 hoth hor (by simp)).sub (by simp))
    · go_simp; refine hKW.out _ _ ?_ (fun hHeld => ?_); (focus ((try dsimp only); exact hS.out _ (by repeat (first | exact Below.refl _ _ | assumption | refine bel_drew ?_ | refine bel_drewN ?_ _ | refine bel_alloc ?_ _ | refine bel_trans ?_ (by assumption)))))
      (try simp only [Act.put, List.setIfInBounds_toArray, List.set_cons_zero, List.set_cons_succ])
      exact L0_16 _ v33 (.slice (some ⟨WW.heap.size, 0, none⟩) 1 1) (by repeat (first | exact Below.refl _ _ | assumption | refine bel_drew ?_ | refine bel_drewN ?_ _ | refine bel_alloc ?_ _ | refine bel_trans ?_ (by assumption))) ((Own2.lit (d := 38) ho hb.size (by simp) (own_oneI2 WW (p : Int))).sub (by simp))
    · go_simp; refine hKW.out _ _ ?_ (fun hHeld => ?_); (focus ((try dsimp only); exact hS.out _ (by repeat (first | exact Below.refl _ _ | assumption | refine bel_drew ?_ | refine bel_drewN ?_ _ | refine bel_alloc ?_ _ | refine bel_trans ?_ (by assumption)))))
      (try simp only [Act.put, List.setIfInBounds_toArray, List.set_cons_zero, List.set_cons_succ])
      exact L0_18 _ v33 (.slice (some ⟨WW.heap.size, 0, none⟩) 0 0) (by repeat (first | exact Below.refl _ _ | assumption | refine bel_drew ?_ | refine bel_drewN ?_ _ | refine bel_alloc ?_ _ | refine bel_trans ?_ (by assumption))) ((Own2.lit (d := 40) ho hb.size (by simp) (own_emptyI WW)).sub (by simp))
    · go_simp; refine hKW.out _ _ ?_ (fun hHeld => ?_); (focus ((try dsimp only); exact hS.out _ (by repeat (first | exact Below.refl _ _ | assumption | refine bel_drew ?_ | refine bel_drewN ?_ _ | refine bel_alloc ?_ _ | refine bel_trans ?_ (by assumption)))))
      (try simp only [Act.put, List.setIfInBounds_toArray, List.set_cons_zero, List.set_cons_succ])
      exact L0_113 _ v33 (.slice (some ⟨WW.heap.size, 0, none⟩) 1 1) (by repeat (first | exact Below.refl _ _ | assumption | refine bel_drew ?_ | refine bel_drewN ?_ _ | refine bel_alloc ?_ _ | refine bel_trans ?_ (by assumption))) ((Own2.lit (d := 45) ho hb.size (by simp) (own_oneI2 WW ((-1) : Int))).sub (by simp))
  have L0_6813 : ∀ (WW : World) (v38 v40 v45 : Value), Below W6.heap.size W6 WW → Own2 W6.heap.size WW [(38, v38, [(p : Int)]), (40, v40, []), (45, v45, [((-1) : Int)])] → wpAnyH Try.prog .any OPS Q' (fun W : World => W.cell? ⟨u1.heap.size, 0, none⟩ = some (.slice Ao' n co') ∧ W.cell? ⟨u1.heap.size, 1, none⟩ = some (.slice Ag' n cg') ∧ W.cell? ⟨u1.heap.size, 2, none⟩ = some (.slice Ac' m' cc') ∧ W.cell? ⟨u1.heap.size, 3, none⟩ = some (.int .i64 (fr' : Int)) ∧ W.cell? ⟨w.heap.size, 4, none⟩ = some (.slice An N.length cn) ∧ W.cell? ⟨w.heap.size, 5, none⟩ = some (.slice Ap N.length cp)) 10 #[true, false, true, true, false, true, true, false, true, true, true, false, true, true, false, false, true, true, false, false, false, false] (((a0.put (some 38) v38).put (some 40) v40).put (some 45) v45) WW := by
    intro WW v38 v40 v45 hb ho
    subst hO
    subst ha
    simp only [Act.put, List.setIfInBounds_toArray, List.set_cons_zero, List.set_cons_succ] at L0_16813
    (try simp only [Act.put, List.setIfInBounds_toArray, List.set_cons_zero, List.set_cons_succ])
    refine wpAnyH_ready (rs := [1]) (by kernel_rfl) (by simp) (ready_cons (i := 1) rfl (by kernel_rfl) (fun KW hKW => ?_) (AllReadyH.nil))
    · go_simp; refine hKW.out _ _ ?_ (fun hHeld => ?_); (focus ((try dsimp only); exact hS.out _ (by repeat (first | exact Below.refl _ _ | assumption | refine bel_drew ?_ | refine bel_drewN ?_ _ | refine bel_alloc ?_ _ | refine bel_trans ?_ (by assumption)))))
      (try simp only [Act.put, List.setIfInBounds_toArray, List.set_cons_zero, List.set_cons_succ])
      exact L0_16813 _ (.slice (some ⟨WW.heap.size, 0, none⟩) 0 0) v38 v40 v45 (by repeat (first | exact Below.refl _ _ | assumption | refine bel_drew ?_ | refine bel_drewN ?_ _ | refine bel_alloc ?_ _ | refine bel_trans ?_ (by assumption))) ((Own2.lit (d := 33) ho hb.size (by simp) (own_emptyI WW)).sub (by simp))
  have L0_68 : ∀ (WW : World) (v38 v40 : Value), Below W6.heap.size W6 WW → Own2 W6.heap.size WW [(38, v38, [(p : Int)]), (40, v40, [])] → wpAnyH Try.prog .any OPS Q' (fun W : World => W.cell? ⟨u1.heap.size, 0, none⟩ = some (.slice Ao' n co') ∧ W.cell? ⟨u1.heap.size, 1, none⟩ = some (.slice Ag' n cg') ∧ W.cell? ⟨u1.heap.size, 2, none⟩ = some (.slice Ac' m' cc') ∧ W.cell? ⟨u1.heap.size, 3, none⟩ = some (.int .i64 (fr' : Int)) ∧ W.cell? ⟨w.heap.size, 4, none⟩ = some (.slice An N.length cn) ∧ W.cell? ⟨w.heap.size, 5, none⟩ = some (.slice Ap N.length cp)) 11 #[true, false, true, true, false, true, true, false, true, true, true, false, true, false, false, false, true, true, false, false, false, false] ((a0.put (some 38) v38).put (some 40) v40) WW := by
    intro WW v38 v40 hb ho
    subst hO
    subst ha
    simp only [Act.put, List.setIfInBounds_toArray, List.set_cons_zero, List.set_cons_succ] at L0_168
    simp only [Act.put, List.setIfInBounds_toArray, List.set_cons_zero, List.set_cons_succ] at L0_6813
    (try simp only [Act.put, List.setIfInBounds_toArray, List.set_cons_zero, List.set_cons_succ])
    refine wpAnyH_ready (rs := [1, 13]) (by kernel_rfl) (by simp) (ready_cons (i := 1) rfl (by kernel_rfl) (fun KW hKW => ?_) (ready_cons (i := 13) rfl (by kernel_rfl) (fun KW hKW => ?_) (AllReadyH.nil)))
    · go_simp; refine hKW.out _ _ ?_ (fun hHeld => ?_); (focus ((try dsimp only); exact hS.out _ (by repeat (first | exact Below.refl _ _ | assumption | refine bel_drew ?_ | refine bel_drewN ?_ _ | refine bel_alloc ?_ _ | refine bel_trans ?_ (by assumption)))))
      (try simp only [Act.put, List.setIfInBounds_toArray, List.set_cons_zero, List.set_cons_succ])
      exact L0_168 _ (.slice (some ⟨WW.heap.size, 0, none⟩) 0 0) v38 v40 (by repeat (first | exact Below.refl _ _ | assumption | refine bel_drew ?_ | refine bel_drewN ?_ _ | refine bel_alloc ?_ _ | refine bel_trans ?_ (by assumption))) ((Own2.lit (d := 33) ho hb.size (by simp) (own_emptyI WW)).sub (by simp))
    · go_simp; refine hKW.out _ _ ?_ (fun hHeld => ?_); (focus ((try dsimp only); exact hS.out _ (by repeat (first | exact Below.refl _ _ | assumption | refine bel_drew ?_ | refine bel_drewN ?_ _ | refine bel_alloc ?_ _ | refine bel_trans ?_ (by assumption)))))
      (try simp only [Act.put, List.setIfInBounds_toArray, List.set_cons_zero, List.set_cons_succ])
      exact L0_6813 _ v38 v40 (.slice (some ⟨WW.heap.size, 0, none⟩) 1 1) (by repeat (first | exact Below.refl _ _ | assumption | refine bel_drew ?_ | refine bel_drewN ?_ _ | refine bel_alloc ?_ _ | refine bel_trans ?_ (by assumption))) ((Own2.lit (d := 45) ho hb.size (by simp) (own_oneI2 WW ((-1) : Int))).sub (by simp))
  have L0_613 : ∀ (WW : World) (v38 v45 : Value), Below W6.heap.size W6 WW → Own2 W6.heap.size WW [(38, v38, [(p : Int)]), (45, v45, [((-1) : Int)])] → wpAnyH Try.prog .any OPS Q' (fun W : World => W.cell? ⟨u1.heap.size, 0, none⟩ = some (.slice Ao' n co') ∧ W.cell? ⟨u1.heap.size, 1, none⟩ = some (.slice Ag' n cg') ∧ W.cell? ⟨u1.heap.size, 2, none⟩ = some (.slice Ac' m' cc') ∧ W.cell? ⟨u1.heap.size, 3, none⟩ = some (.int .i64 (fr' : Int)) ∧ W.cell? ⟨w.heap.size, 4, none⟩ = some (.slice An N.length cn) ∧ W.cell? ⟨w.heap.size, 5, none⟩ = some (.slice Ap N.length cp)) 11 #[true, false, true, true, false, true, true, false, false, true, true, false, true, true, false, false, true, true, false, false, false, false] ((a0.put (some 38) v38).put (some 45) v45) WW := by
    intro WW v38 v45 hb ho
    subst hO
    subst ha
    simp only [Act.put, List.setIfInBounds_toArray, List.set_cons_zero, List.set_cons_succ] at L0_1613
    simp only [Act.put, List.setIfInBounds_toArray, List.set_cons_zero, List.set_cons_succ] at L0_6813
    (try simp only [Act.put, List.setIfInBounds_toArray, List.set_cons_zero, List.set_cons_succ])
    refine wpAnyH_ready (rs := [1, 8]) (by kernel_rfl) (by simp) (ready_cons (i := 1) rfl (by kernel_rfl) (fun KW hKW => ?_) (ready_cons (i := 8) rfl (by kernel_rfl) (fun KW hKW => ?_) (AllReadyH.nil)))
    · go_simp; refine hKW.out _ _ ?_ (fun hHeld => ?_); (focus ((try dsimp only); exact hS.out _ (by repeat (first | exact Below.refl _ _ | assumption | refine bel_drew ?_ | refine bel_drewN ?_ _ | refine bel_alloc ?_ _ | refine bel_trans ?_ (by assumption)))))
      (try simp only [Act.put, List.setIfInBounds_toArray, List.set_cons_zero, List.set_cons_succ])
      exact L0_1613 _ (.slice (some ⟨WW.heap.size, 0, none⟩) 0 0) v38 v45 (by repeat (first | exact Below.refl _ _ | assumption | refine bel_drew ?_ | refine bel_drewN ?_ _ | refine bel_alloc ?_ _ | refine bel_trans ?_ (by assumption))) ((Own2.lit (d := 33) ho hb.size (by simp) (own_emptyI WW)).sub (by simp))
    · go_simp; refine hKW.out _ _ ?_ (fun hHeld => ?_); (focus ((try dsimp only); exact hS.out _ (by repeat (first | exact Below.refl _ _ | assumption | refine bel_drew ?_ | refine bel_drewN ?_ _ | refine bel_alloc ?_ _ | refine bel_trans ?_ (by assumption)))))
      (try simp only [Act.put, List.setIfInBounds_toArray, List.set_cons_zero, List.set_cons_succ])
      exact L0_6813 _ v38 (.slice (some ⟨WW.heap.size, 0, none⟩) 0 0) v45 (by repeat (first | exact Below.refl _ _ | assumption | refine bel_drew ?_ | refine bel_drewN ?_ _ | refine bel_alloc ?_ _ | refine bel_trans ?_ (by assumption))) ((Own2.lit (d := 40) ho hb.size (by simp) (own_emptyI WW)).sub (by simp))
  have L0_6 : ∀ (WW : World) (v38 : Value), Below W6.heap.size W6 WW → Own2 W6.heap.size WW [(38, v38, [(p : Int)])] → wpAnyH Try.prog .any OPS Q' (fun W : World => W.cell? ⟨u1.heap.size, 0, none⟩ = some (.slice Ao' n co') ∧ W.cell? ⟨u1.heap.size, 1, none⟩ = some (.slice Ag' n cg') ∧ W.cell? ⟨u1.heap.size, 2, none⟩ = some (.slice Ac' m' cc') ∧ W.cell? ⟨u1.heap.size, 3, none⟩ = some (.int .i64 (fr' : Int)) ∧ W.cell? ⟨w.heap.size, 4, none⟩ = some (.slice An N.length cn) ∧ W.cell? ⟨w.heap.size, 5, none⟩ = some (.slice Ap N.length cp)) 12 #[true, false, true, true, false, true, true, false, false, true, true, false, true, false, false, false, true, true, false, false, false, false] (a0.put (some 38) v38) WW := by
    intro WW v38 hb ho
    subst hO
    subst ha
    simp only [Act.put, List.setIfInBounds_toArray, List.set_cons_zero, List.set_cons_succ] at L0_16
    simp only [Act.put, List.setIfInBounds_toArray, List.set_cons_zero, List.set_cons_succ] at L0_68
    simp only [Act.put, List.setIfInBounds_toArray, List.set_cons_zero, List.set_cons_succ] at L0_613
    (try simp only [Act.put, List.setIfInBounds_toArray, List.set_cons_zero, List.set_cons_succ])
    refine wpAnyH_ready (rs := [1, 8, 13]) (by kernel_rfl) (by simp) (ready_cons (i := 1) rfl (by kernel_rfl) (fun KW hKW => ?_) (ready_cons (i := 8) rfl (by kernel_rfl) (fun KW hKW => ?_) (ready_cons (i := 13) rfl (by kernel_rfl) (fun KW hKW => ?_) (AllReadyH.nil))))
    · go_simp; refine hKW.out _ _ ?_ (fun hHeld => ?_); (focus ((try dsimp only); exact hS.out _ (by repeat (first | exact Below.refl _ _ | assumption | refine bel_drew ?_ | refine bel_drewN ?_ _ | refine bel_alloc ?_ _ | refine bel_trans ?_ (by assumption)))))
      (try simp only [Act.put, List.setIfInBounds_toArray, List.set_cons_zero, List.set_cons_succ])
      exact L0_16 _ (.slice (some ⟨WW.heap.size, 0, none⟩) 0 0) v38 (by repeat (first | exact Below.refl _ _ | assumption | refine bel_drew ?_ | refine bel_drewN ?_ _ | refine bel_alloc ?_ _ | refine bel_trans ?_ (by assumption))) ((Own2.lit (d := 33) ho hb.size (by simp) (own_emptyI WW)).sub (by simp))
    · go_simp; refine hKW.out _ _ ?_ (fun hHeld => ?_); (focus ((try dsimp only); exact hS.out _ (by repeat (first | exact Below.refl _ _ | assumption | refine bel_drew ?_ | refine bel_drewN ?_ _ | refine bel_alloc ?_ _ | refine bel_trans ?_ (by assumption)))))
      (try simp only [Act.put, List.setIfInBounds_toArray, List.set_cons_zero, List.set_cons_succ])
      exact L0_68 _ v38 (.slice (some ⟨WW.heap.size, 0, none⟩) 0 0) (by repeat (first | exact Below.refl _ _ | assumption | refine bel_drew ?_ | refine bel_drewN ?_ _ | refine bel_alloc ?_ _ | refine bel_trans ?_ (by assumption))) ((Own2.lit (d := 40) ho hb.size (by simp) (own_emptyI WW)).sub (by simp))
    · go_simp; refine hKW.out _ _ ?_ (fun hHeld => ?_); (focus ((try dsimp only); exact hS.out _ (by repeat (first | exact Below.refl _ _ | assumption | refine bel_drew ?_ | refine bel_drewN ?_ _ | refine bel_alloc ?_ _ | refine bel_trans ?_ (by assumption)))))
      (try simp only [Act.put, List.setIfInBounds_toArray, List.set_cons_zero, List.set_cons_succ])
      exact L0_613 _ v38 (.slice (some ⟨WW.heap.size, 0, none⟩) 1 1) (by repeat (first | exact Below.refl _ _ | assumption | refine bel_drew ?_ | refine bel_drewN ?_ _ | refine bel_alloc ?_ _ | refine bel_trans ?_ (by assumption))) ((Own2.lit (d := 45) ho hb.size (by simp) (own_oneI2 WW ((-1) : Int))).sub (by simp))
  have L0_813 : ∀ (WW : World) (v40 v45 : Value), Below W6.heap.size W6 WW → Own2 W6.heap.size WW [(40, v40, []), (45, v45, [((-1) : Int)])] → wpAnyH Try.prog .any OPS Q' (fun W : World => W.cell? ⟨u1.heap.size, 0, none⟩ = some (.slice Ao' n co') ∧ W.cell? ⟨u1.heap.size, 1, none⟩ = some (.slice Ag' n cg') ∧ W.cell? ⟨u1.heap.size, 2, none⟩ = some (.slice Ac' m' cc') ∧ W.cell? ⟨u1.heap.size, 3, none⟩ = some (.int .i64 (fr' : Int)) ∧ W.cell? ⟨w.heap.size, 4, none⟩ = some (.slice An N.length cn) ∧ W.cell? ⟨w.heap.size, 5, none⟩ = some (.slice Ap N.length cp)) 11 #[true, false, true, true, false, true, false, false, true, true, true, false, true, true, false, false, true, true, false, false, false, false] ((a0.put (some 40) v40).put (some 45) v45) WW := by
    intro WW v40 v45 hb ho
    subst hO
    subst ha
    simp only [Act.put, List.setIfInBounds_toArray, List.set_cons_zero, List.set_cons_succ] at L0_1813
    simp only [Act.put, List.setIfInBounds_toArray, List.set_cons_zero, List.set_cons_succ] at L0_6813
    (try simp only [Act.put, List.setIfInBounds_toArray, List.set_cons_zero, List.set_cons_succ])
    refine wpAnyH_ready (rs := [1, 6]) (by kernel_rfl) (by simp) (ready_cons (i := 1) rfl (by kernel_rfl) (fun KW hKW => ?_) (ready_cons (i := 6) rfl (by kernel_rfl) (fun KW hKW => ?_) (AllReadyH.nil)))
    · go_simp; refine hKW.out _ _ ?_ (fun hHeld => ?_); (focus ((try dsimp only); exact hS.out _ (by repeat (first | exact Below.refl _ _ | assumption | refine bel_drew ?_ | refine bel_drewN ?_ _ | refine bel_alloc ?_ _ | refine bel_trans ?_ (by assumption)))))
      (try simp only [Act.put, List.setIfInBounds_toArray, List.set_cons_zero, List.set_cons_succ])
      exact L0_1813 _ (.slice (some ⟨WW.heap.size, 0, none⟩) 0 0) v40 v45 (by repeat (first | exact Below.refl _ _ | assumption | refine bel_drew ?_ | refine bel_drewN ?_ _ | refine bel_alloc ?_ _ | refine bel_trans ?_ (by assumption))) ((Own2.lit (d := 33) ho hb.size (by simp) (own_emptyI WW)).sub (by simp))
    · go_simp; refine hKW.out _ _ ?_ (fun hHeld => ?_); (focus ((try dsimp only); exact hS.out _ (by repeat (first | exact Below.refl _ _ | assumption | refine bel_drew ?_ | refine bel_drewN ?_ _ | refine bel_alloc ?_ _ | refine bel_trans ?_ (by assumption)))))
      (try simp only [Act.put, List.setIfInBounds_toArray, List.set_cons_zero, List.set_cons_succ])
      exact L0_6813 _ (.slice (some ⟨WW.heap.size, 0, none⟩) 1 1) v40 v45 (by repeat (first | exact Below.refl _ _ | assumption | refine bel_drew ?_ | refine bel_drewN ?_ _ | refine bel_alloc ?_ _ | refine bel_trans ?_ (by assumption))) ((Own2.lit (d := 38) ho hb.size (by simp) (own_oneI2 WW (p : Int))).sub (by simp))
  have L0_8 : ∀ (WW : World) (v40 : Value), Below W6.heap.size W6 WW → Own2 W6.heap.size WW [(40, v40, [])] → wpAnyH Try.prog .any OPS Q' (fun W : World => W.cell? ⟨u1.heap.size, 0, none⟩ = some (.slice Ao' n co') ∧ W.cell? ⟨u1.heap.size, 1, none⟩ = some (.slice Ag' n cg') ∧ W.cell? ⟨u1.heap.size, 2, none⟩ = some (.slice Ac' m' cc') ∧ W.cell? ⟨u1.heap.size, 3, none⟩ = some (.int .i64 (fr' : Int)) ∧ W.cell? ⟨w.heap.size, 4, none⟩ = some (.slice An N.length cn) ∧ W.cell? ⟨w.heap.size, 5, none⟩ = some (.slice Ap N.length cp)) 12 #[true, false, true, true, false, true, false, false, true, true, true, false, true, false, false, false, true, true, false, false, false, false] (a0.put (some 40) v40) WW := by
    intro WW v40 hb ho
    subst hO
    subst ha
    simp only [Act.put, List.setIfInBounds_toArray, List.set_cons_zero, List.set_cons_succ] at L0_18
    simp only [Act.put, List.setIfInBounds_toArray, List.set_cons_zero, List.set_cons_succ] at L0_68
    simp only [Act.put, List.setIfInBounds_toArray, List.set_cons_zero, List.set_cons_succ] at L0_813
    (try simp only [Act.put, List.setIfInBounds_toArray, List.set_cons_zero, List.set_cons_succ])
    refine wpAnyH_ready (rs := [1, 6, 13]) (by kernel_rfl) (by simp) (ready_cons (i := 1) rfl (by kernel_rfl) (fun KW hKW => ?_) (ready_cons (i := 6) rfl (by kernel_rfl) (fun KW hKW => ?_) (ready_cons (i := 13) rfl (by kernel_rfl) (fun KW hKW => ?_) (AllReadyH.nil))))
    · go_simp; refine hKW.out _ _ ?_ (fun hHeld => ?_); (focus ((try dsimp only); exact hS.out _ (by repeat (first | exact Below.refl _ _ | assumption | refine bel_drew ?_ | refine bel_drewN ?_ _ | refine bel_alloc ?_ _ | refine bel_trans ?_ (by assumption)))))
      (try simp only [Act.put, List.setIfInBounds_toArray, List.set_cons_zero, List.set_cons_succ])
      exact L0_18 _ (.slice (some ⟨WW.heap.size, 0, none⟩) 0 0) v40 (by repeat (first | exact Below.refl _ _ | assumption | refine bel_drew ?_ | refine bel_drewN ?_ _ | refine bel_alloc ?_ _ | refine bel_trans ?_ (by assumption))) ((Own2.lit (d := 33) ho hb.size (by simp) (own_emptyI WW)).sub (by simp))
    · go_simp; refine hKW.out _ _ ?_ (fun hHeld => ?_); (focus ((try dsimp only); exact hS.out _ (by repeat (first | exact Below.refl _ _ | assumption | refine bel_drew ?_ | refine bel_drewN ?_ _ | refine bel_alloc ?_ _ | refine bel_trans ?_ (by assumption)))))
      (try simp only [Act.put, List.setIfInBounds_toArray, List.set_cons_zero, List.set_cons_succ])
      exact L0_68 _ (.slice (some ⟨WW.heap.size, 0, none⟩) 1 1) v40 (by repeat (first | exact Below.refl _ _ | assumption | refine bel_drew ?_ | refine bel_drewN ?_ _ | refine bel_alloc ?_ _ | refine bel_trans ?_ (by assumption))) ((Own2.lit (d := 38) ho hb.size (by simp) (own_oneI2 WW (p : Int))).sub (by simp))
    · go_simp; refine hKW.out _ _ ?_ (fun hHeld => ?_); (focus ((try dsimp only); exact hS.out _ (by repeat (first | exact Below.refl _ _ | assumption | refine bel_drew ?_ | refine bel_drewN ?_ _ | refine bel_alloc ?_ _ | refine bel_trans ?_ (by assumption)))))
      (try simp only [Act.put, List.setIfInBounds_toArray, List.set_cons_zero, List.set_cons_succ])
      exact L0_813 _ v40 (.slice (some ⟨WW.heap.size, 0, none⟩) 1 1) (by repeat (first | exact Below.refl _ _ | assumption | refine bel_drew ?_ | refine bel_drewN ?_ _ | refine bel_alloc ?_ _ | refine bel_trans ?_ (by assumption))) ((Own2.lit (d := 45) ho hb.size (by simp) (own_oneI2 WW ((-1) : Int))).sub (by simp))
  have L0_13 : ∀ (WW : World) (v45 : Value), Below W6.heap.size W6 WW → Own2 W6.heap.size WW [(45, v45, [((-1) : Int)])] → wpAnyH Try.prog .any OPS Q' (fun W : World => W.cell? ⟨u1.heap.size, 0, none⟩ = some (.slice Ao' n co') ∧ W.cell? ⟨u1.heap.size, 1, none⟩ = some (.slice Ag' n cg') ∧ W.cell? ⟨u1.heap.size, 2, none⟩ = some (.slice Ac' m' cc') ∧ W.cell? ⟨u1.heap.size, 3, none⟩ = some (.int .i64 (fr' : Int)) ∧ W.cell? ⟨w.heap.size, 4, none⟩ = some (.slice An N.length cn) ∧ W.cell? ⟨w.heap.size, 5, none⟩ = some (.slice Ap N.length cp)) 12 #[true, false, true, true, false, true, false, false, false, true, true, false, true, true, false, false, true, true, false, false, false, false] (a0.put (some 45) v45) WW := by
    intro WW v45 hb ho
    subst hO
    subst ha
    simp only [Act.put, List.setIfInBounds_toArray, List.set_cons_zero, List.set_cons_succ] at L0_113
    simp only [Act.put, List.setIfInBounds_toArray, List.set_cons_zero, List.set_cons_succ] at L0_613
    simp only [Act.put, List.setIfInBounds_toArray, List.set_cons_zero, List.set_cons_succ] at L0_813
    (try simp only [Act.put, List.setIfInBounds_toArray, List.set_cons_zero, List.set_cons_succ])
    refine wpAnyH_ready (rs := [1, 6, 8]) (by kernel_rfl) (by simp) (ready_cons (i := 1) rfl (by kernel_rfl) (fun KW hKW => ?_) (ready_cons (i := 6) rfl (by kernel_rfl) (fun KW hKW => ?_) (ready_cons (i := 8) rfl (by kernel_rfl) (fun KW hKW => ?_) (AllReadyH.nil))))
    · go_simp; refine hKW.out _ _ ?_ (fun hHeld => ?_); (focus ((try dsimp only); exact hS.out _ (by repeat (first | exact Below.refl _ _ | assumption | refine bel_drew ?_ | refine bel_drewN ?_ _ | refine bel_alloc ?_ _ | refine bel_trans ?_ (by assumption)))))
      (try simp only [Act.put, List.setIfInBounds_toArray, List.set_cons_zero, List.set_cons_succ])
      exact L0_113 _ (.slice (some ⟨WW.heap.size, 0, none⟩) 0 0) v45 (by repeat (first | exact Below.refl _ _ | assumption | refine bel_drew ?_ | refine bel_drewN ?_ _ | refine bel_alloc ?_ _ | refine bel_trans ?_ (by assumption))) ((Own2.lit (d := 33) ho hb.size (by simp) (own_emptyI WW)).sub (by simp))
    · go_simp; refine hKW.out _ _ ?_ (fun hHeld => ?_); (focus ((try dsimp only); exact hS.out _ (by repeat (first | exact Below.refl _ _ | assumption | refine bel_drew ?_ | refine bel_drewN ?_ _ | refine bel_alloc ?_ _ | refine bel_trans ?_ (by assumption)))))
      (try simp only [Act.put, List.setIfInBounds_toArray, List.set_cons_zero, List.set_cons_succ])
      exact L0_613 _ (.slice (some ⟨WW.heap.size, 0, none⟩) 1 1) v45 (by repeat (first | exact Below.refl _ _ | assumption | refine bel_drew ?_ | refine bel_drewN ?_ _ | refine bel_alloc ?_ _ | refine bel_trans ?_ (by assumption))) ((Own2.lit (d := 38) ho hb.size (by simp) (own_oneI2 WW (p : Int))).sub (by simp))
    · go_simp; refine hKW.out _ _ ?_ (fun hHeld => ?_); (focus ((try dsimp only); exact hS.out _ (by repeat (first | exact Below.refl _ _ | assumption | refine bel_drew ?_ | refine bel_drewN ?_ _ | refine bel_alloc ?_ _ | refine bel_trans ?_ (by assumption)))))
      (try simp only [Act.put, List.setIfInBounds_toArray, List.set_cons_zero, List.set_cons_succ])
      exact L0_813 _ (.slice (some ⟨WW.heap.size, 0, none⟩) 0 0) v45 (by repeat (first | exact Below.refl _ _ | assumption | refine bel_drew ?_ | refine bel_drewN ?_ _ | refine bel_alloc ?_ _ | refine bel_trans ?_ (by assumption))) ((Own2.lit (d := 40) ho hb.size (by simp) (own_emptyI WW)).sub (by simp))
  have L0_ : ∀ (WW : World), Below W6.heap.size W6 WW → Own2 W6.heap.size WW [] → wpAnyH Try.prog .any OPS Q' (fun W : World => W.cell? ⟨u1.heap.size, 0, none⟩ = some (.slice Ao' n co') ∧ W.cell? ⟨u1.heap.size, 1, none⟩ = some (.slice Ag' n cg') ∧ W.cell? ⟨u1.heap.size, 2, none⟩ = some (.slice Ac' m' cc') ∧ W.cell? ⟨u1.heap.size, 3, none⟩ = some (.int .i64 (fr' : Int)) ∧ W.cell? ⟨w.heap.size, 4, none⟩ = some (.slice An N.length cn) ∧ W.cell? ⟨w.heap.size, 5, none⟩ = some (.slice Ap N.length cp)) 13 #[true, false, true, true, false, true, false, false, false, true, true, false, true, false, false, false, true, true, false, false, false, false] a0 WW := by
    intro WW hb ho
    subst hO
    subst ha
    simp only [Act.put, List.setIfInBounds_toArray, List.set_cons_zero, List.set_cons_succ] at L0_1
    simp only [Act.put, List.setIfInBounds_toArray, List.set_cons_zero, List.set_cons_succ] at L0_6
    simp only [Act.put, List.setIfInBounds_toArray, List.set_cons_zero, List.set_cons_succ] at L0_8
    simp only [Act.put, List.setIfInBounds_toArray, List.set_cons_zero, List.set_cons_succ] at L0_13
    (try simp only [Act.put, List.setIfInBounds_toArray, List.set_cons_zero, List.set_cons_succ])
    refine wpAnyH_ready (rs := [1, 6, 8, 13]) (by kernel_rfl) (by simp) (ready_cons (i := 1) rfl (by kernel_rfl) (fun KW hKW => ?_) (ready_cons (i := 6) rfl (by kernel_rfl) (fun KW hKW => ?_) (ready_cons (i := 8) rfl (by kernel_rfl) (fun KW hKW => ?_) (ready_cons (i := 13) rfl (by kernel_rfl) (fun KW hKW => ?_) (AllReadyH.nil)))))
    · go_simp; refine hKW.out _ _ ?_ (fun hHeld => ?_); (focus ((try dsimp only); exact hS.out _ (by repeat (first | exact Below.refl _ _ | assumption | refine bel_drew ?_ | refine bel_drewN ?_ _ | refine bel_alloc ?_ _ | refine bel_trans ?_ (by assumption)))))
      (try simp only [Act.put, List.setIfInBounds_toArray, List.set_cons_zero, List.set_cons_succ])
      exact L0_1 _ (.slice (some ⟨WW.heap.size, 0, none⟩) 0 0) (by repeat (first | exact Below.refl _ _ | assumption | refine bel_drew ?_ | refine bel_drewN ?_ _ | refine bel_alloc ?_ _ | refine bel_trans ?_ (by assumption))) ((Own2.lit (d := 33) ho hb.size (by simp) (own_emptyI WW)).sub (by simp))
    · go_simp; refine hKW.out _ _ ?_ (fun hHeld => ?_); (focus ((try dsimp only); exact hS.out _ (by repeat (first | exact Below.refl _ _ | assumption | refine bel_drew ?_ | refine bel_drewN ?_ _ | refine bel_alloc ?_ _ | refine bel_trans ?_ (by assumption)))))
      (try simp only [Act.put, List.setIfInBounds_toArray, List.set_cons_zero, List.set_cons_succ])
      exact L0_6 _ (.slice (some ⟨WW.heap.size, 0, none⟩) 1 1) (by repeat (first | exact Below.refl _ _ | assumption | refine bel_drew ?_ | refine bel_drewN ?_ _ | refine bel_alloc ?_ _ | refine bel_trans ?_ (by assumption))) ((Own2.lit (d := 38) ho hb.size (by simp) (own_oneI2 WW (p : Int))).sub (by simp))
    · go_simp; refine hKW.out _ _ ?_ (fun hHeld => ?_); (focus ((try dsimp only); exact hS.out _ (by repeat (first | exact Below.refl _ _ | assumption | refine bel_drew ?_ | refine bel_drewN ?_ _ | refine bel_alloc ?_ _ | refine bel_trans ?_ (by assumption)))))
      (try simp only [Act.put, List.setIfInBounds_toArray, List.set_cons_zero, List.set_cons_succ])
      exact L0_8 _ (.slice (some ⟨WW.heap.size, 0, none⟩) 0 0) (by repeat (first | exact Below.refl _ _ | assumption | refine bel_drew ?_ | refine bel_drewN ?_ _ | refine bel_alloc ?_ _ | refine bel_trans ?_ (by assumption))) ((Own2.lit (d := 40) ho hb.size (by simp) (own_emptyI WW)).sub (by simp))
    · go_simp; refine hKW.out _ _ ?_ (fun hHeld => ?_); (focus ((try dsimp only); exact hS.out _ (by repeat (first | exact Below.refl _ _ | assumption | refine bel_drew ?_ | refine bel_drewN ?_ _ | refine bel_alloc ?_ _ | refine bel_trans ?_ (by assumption)))))
      (try simp only [Act.put, List.setIfInBounds_toArray, List.set_cons_zero, List.set_cons_succ])
      exact L0_13 _ (.slice (some ⟨WW.heap.size, 0, none⟩) 1 1) (by repeat (first | exact Below.refl _ _ | assumption | refine bel_drew ?_ | refine bel_drewN ?_ _ | refine bel_alloc ?_ _ | refine bel_trans ?_ (by assumption))) ((Own2.lit (d := 45) ho hb.size (by simp) (own_oneI2 WW ((-1) : Int))).sub (by simp))
  exact L0_ _ (by repeat (first | exact Below.refl _ _ | assumption | refine bel_drew ?_ | refine bel_drewN ?_ _ | refine bel_alloc ?_ _ | refine bel_trans ?_ (by assumption))) (Own2.nil _ _)
end Go.Proofs.Ytdhcmnbajkpjiaa
/-
  A forest tells the first child, the next one, whether a node is right; what the reference's Drop refuses.
-/
namespace Go.Proofs.Ytdhcmnbajkpjiaa
open Go.RowKit
open Go.Maps
set_option linter.unusedVariables false
set_option linter.unusedSimpArgs false
attribute [local go_sem] drewN_alloc drewN_setCell

section
variable {B : Nat} {w w' : World} {Fb Sb Gb Mb Pb C Nb Lb n : Nat} {v : Value} {g up : List Int} {O cl : List Nat} {fr : Nat} {R : Nat → List Nat}
theorem node_First (x : Int) (h : NodeAt B w Fb Sb Gb Mb Pb C Nb Lb n v g up O cl fr R) (hi : FI n up O cl fr R) : Calls Try.prog 53 #[.pointer (some ⟨Fb, 0, none⟩), .int .i64 x] w fun e w' => e = .returned (.int .i64 (PC.headD (kidV O R x))) ∧ w = w' := by
  have K1 := node_Is x h hi
  have f1 := h.f1
  by_cases hm : x ∈ ints O
  · rw [decide_eq_true hm] at K1
    replace K1 := Lib.hid K1
    have hm2 := in_nat.1 hm
    have hpn := hi.lt hm2.2
    have e1 : PC.rowV (n + 1) R x = kidV O R x := by
      unfold PC.rowV kidV
      rw [if_pos hm, if_pos (by omega)]
    have K2 := chain_First x h.ch
    rw [e1] at K2
    replace K2 := Lib.hid K2
    generalize PC.headD (kidV O R x) = y at *
    clear h hi hm hm2 e1
    go_enter Try.func53, Try.ntmps53
    go_wp2_with fail
    refine K1.out.mono ?_
    rintro e w1 ⟨rfl, rfl⟩
    go_wp2_with fail
    refine K2.out.mono ?_
    rintro e w1 ⟨rfl, rfl⟩
    go_wp2_with fail
    go_ret
    exact ⟨rfl, rfl⟩
  · rw [decide_eq_false hm] at K1
    replace K1 := Lib.hid K1
    have HE : Hid (-1 = PC.headD (kidV O R x)) := Lib.hid (by unfold kidV; rw [if_neg hm]; rfl)
    clear h hi hm
    go_enter Try.func53, Try.ntmps53
    go_wp2_with fail
    refine K1.out.mono ?_
    rintro e w1 ⟨rfl, rfl⟩
    go_wp2_with fail
    go_ret
    exact ⟨ret_int HE.out, rfl⟩
theorem node_Next (x : Int) (h : NodeAt B w Fb Sb Gb Mb Pb C Nb Lb n v g up O cl fr R) : Calls Try.prog 54 #[.pointer (some ⟨Fb, 0, none⟩), .int .i64 x] w fun e w' => e = .returned (.int .i64 (PC.nextV (n + 1) R x)) ∧ w = w' := by
  have K1 := Lib.hid (node_is h)
  have f1 := h.f1
  have K2 := Lib.hid (chain_Next x h.ch)
  generalize PC.nextV (n + 1) R x = y at *
  clear h
  go_enter Try.func54, Try.ntmps54
  go_wp2_with fail
  refine K1.out.mono ?_
  rintro e w1 ⟨rfl, rfl⟩
  go_wp2_with fail
  refine K2.out.mono ?_
  rintro e w1 ⟨rfl, rfl⟩
  go_wp2_with fail
  go_ret
  exact ⟨rfl, rfl⟩
theorem node_Right (x y : Int) (h : NodeAt B w Fb Sb Gb Mb Pb C Nb Lb n v g up O cl fr R) (hi : FI n up O cl fr R) (hx : BdI x) : Calls Try.prog 52 #[.pointer (some ⟨Fb, 0, none⟩), .int .i64 x, .int .i64 y] w fun e w' => e = .returned (.bool (rightB O g x y)) ∧ Below w.heap.size w w' := by
  have K1 := Lib.hid (node_is h)
  have f0 := h.f0
  have K2 := Lib.hid (slots_Right x y h.sl hi.s hx)
  generalize rightB O g x y = z at *
  clear h hi hx
  go_enter Try.func52, Try.ntmps52
  go_wp2_with fail
  refine K1.out.mono ?_
  rintro e w1 ⟨rfl, rfl⟩
  go_wp2_with fail
  refine K2.out.mono ?_
  rintro e w1 ⟨rfl, h1⟩
  go_wp2_with fail
  go_ret
  exact ⟨rfl, h1⟩
end
section
variable {w0 w w' : World} {own : Nat → Prop} {Fb n : Nat} {S : FSt}
theorem overf_First (x : Int) (h : ForestOver w0 w own Fb n S) : Calls Try.prog 53 #[.pointer (some ⟨Fb, 0, none⟩), .int .i64 x] w fun e w' => e = .returned (.int .i64 (PC.headD (kidV S.O S.R x))) ∧ w = w' := by
  obtain ⟨B, Sb, Gb, Mb, Pb, C, Nb, Lb, v, h1, ho, hv⟩ := h.ex
  exact node_First x h1 h.fi
theorem overf_Next (x : Int) (h : ForestOver w0 w own Fb n S) : Calls Try.prog 54 #[.pointer (some ⟨Fb, 0, none⟩), .int .i64 x] w fun e w' => e = .returned (.int .i64 (PC.nextV (n + 1) S.R x)) ∧ w = w' := by
  obtain ⟨B, Sb, Gb, Mb, Pb, C, Nb, Lb, v, h1, ho, hv⟩ := h.ex
  exact node_Next x h1
theorem overf_Right (x y : Int) (hx : BdI x) (h : ForestOver w0 w own Fb n S) : Calls Try.prog 52 #[.pointer (some ⟨Fb, 0, none⟩), .int .i64 x, .int .i64 y] w fun e w' => e = .returned (.bool (rightB S.O S.g x y)) ∧ Below w.heap.size w w' := by
  obtain ⟨B, Sb, Gb, Mb, Pb, C, Nb, Lb, v, h1, ho, hv⟩ := h.ex
  exact node_Right x y h1 h.fi hx
end
variable {P : Nat → Prop} {w w' : World} {V : Value} {n : Nat} {g : List Int} {O cl : List Nat} {fr : Nat} {N : List Nat} {up : List Int}
set_option maxRecDepth 100000 in
set_option maxHeartbeats 2000000 in
theorem ref37_Drop_bad (x : Int) (hx : PC.place N x = -1) (h : RefF P w V n g O cl fr N up) :
    Calls Try.prog 38 #[V, .int .i64 x] w fun e w' => e = .returned (.tuple #[V, .bool false]) ∧ Below w.heap.size w w' := by
  obtain ⟨Ao, co, Ag, cg, Ac, cc, An, cn, Ap, cp, rfl, h1, h2, h3⟩ := h
  have KA : Hid (∀ W, Below w.heap.size w W → Calls Try.prog 110 #[.agg #[.slice Ao n co, .slice Ag n cg, .slice Ac cl.length cc, .int .i64 (fr : Int), .slice An N.length cn, .slice Ap N.length cp], .int .i64 x] W fun e w' => e = .returned (.int .i64 (-1)) ∧ Below W.heap.size W w') := Lib.hid (fun W hW => by
    have := ref37_At (P := P) (g := g) (O := O) (up := up) x (RefF.keep ⟨Ao, co, Ag, cg, Ac, cc, An, cn, Ap, cp, rfl, h1, h2, h3⟩ hW)
    rwa [hx] at this)
  clear hx
  obtain ⟨m, hm⟩ : ∃ m, cl.length = m := ⟨_, rfl⟩
  rw [hm] at KA ⊢
  clear h1 h2 h3 hm
  go_enter Try.func38, Try.ntmps38
  go_upto_region 1 with (fail)
  refine region_name ?_
  rintro W0 hW0
  have r0 : RowAt W0 w.heap.size 58 [.slice Ao n co, .slice Ag n cg, .slice Ac m cc, .int .i64 (fr : Int), .slice An N.length cn, .slice Ap N.length cp] := by
    rw [hW0]; exact (RowAt.new w 58 _).alloc _
  have s0 : RowAt W0 (w.heap.size + 1) 58 [.slice none 0 0, .slice none 0 0, .slice none 0 0, .int .i64 0, .slice none 0 0, .slice none 0 0] := by
    rw [hW0]
    have := RowAt.new (w.alloc (.cells #[.slice Ao n co, .slice Ag n cg, .slice Ac m cc, .int .i64 (fr : Int), .slice An N.length cn, .slice Ap N.length cp] 58)) 58 [.slice none 0 0, .slice none 0 0, .slice none 0 0, .int .i64 0, .slice none 0 0, .slice none 0 0]
    simpa using this
  have b0 : Below w.heap.size w W0 := by rw [hW0]; exact (by repeat (first | exact Below.refl _ _ | assumption | refine bel_drew ?_ | refine bel_drewN ?_ _ | refine bel_alloc ?_ _ | refine bel_set ?_ (by first | (dsimp only; omega) | (simp; done) | (simp; omega)) _ | refine bel_trans ?_ (by assumption)))
  clear hW0
  have c0 : W0.cell? ⟨w.heap.size, 0, none⟩ = some (.slice Ao n co) := by rw [r0.cell]; rfl
  have c1 : W0.cell? ⟨w.heap.size, 1, none⟩ = some (.slice Ag n cg) := by rw [r0.cell]; rfl
  have c2 : W0.cell? ⟨w.heap.size, 2, none⟩ = some (.slice Ac m cc) := by rw [r0.cell]; rfl
  have c3 : W0.cell? ⟨w.heap.size, 3, none⟩ = some (.int .i64 (fr : Int)) := by rw [r0.cell]; rfl
  have c4 : W0.cell? ⟨w.heap.size, 4, none⟩ = some (.slice An N.length cn) := by rw [r0.cell]; rfl
  have c5 : W0.cell? ⟨w.heap.size, 5, none⟩ = some (.slice Ap N.length cp) := by rw [r0.cell]; rfl
  go_wp2_with fail
  refine (KA.out _ b0).mono ?_
  rintro e w1 ⟨rfl, hb⟩
  have r1 := r0.keep hb
  have s1 := s0.keep hb
  have b1 := bel_trans b0 hb
  clear c0 c1 c2 c3 c4 c5 r0 s0 b0 hb
  have c0 : w1.cell? ⟨w.heap.size, 0, none⟩ = some (.slice Ao n co) := by rw [r1.cell]; rfl
  have c1 : w1.cell? ⟨w.heap.size, 1, none⟩ = some (.slice Ag n cg) := by rw [r1.cell]; rfl
  have c2 : w1.cell? ⟨w.heap.size, 2, none⟩ = some (.slice Ac m cc) := by rw [r1.cell]; rfl
  have c3 : w1.cell? ⟨w.heap.size, 3, none⟩ = some (.int .i64 (fr : Int)) := by rw [r1.cell]; rfl
  have c4 : w1.cell? ⟨w.heap.size, 4, none⟩ = some (.slice An N.length cn) := by rw [r1.cell]; rfl
  have c5 : w1.cell? ⟨w.heap.size, 5, none⟩ = some (.slice Ap N.length cp) := by rw [r1.cell]; rfl
  have e0 := (s1.cell 0).trans rfl
  have e1 := (s1.cell 1).trans rfl
  have e2 := (s1.cell 2).trans rfl
  have e3 := (s1.cell 3).trans rfl
  have e4 := (s1.cell 4).trans rfl
  have e5 := (s1.cell 5).trans rfl
  have f0 := s1.frozen 0
  have f1 := s1.frozen 1
  have f2 := s1.frozen 2
  have f3 := s1.frozen 3
  have f4 := s1.frozen 4
  have f5 := s1.frozen 5
  have B := Lib.hid b1
  clear r1 s1 b1
  go_wp2_with fail
  refine bodyPost_ret (v := .tuple #[.agg #[.slice Ao n co, .slice Ag n cg, .slice Ac m cc, .int .i64 (fr : Int), .slice An N.length cn, .slice Ap N.length cp], .bool false]) (by simp [results, Try.results38, go_sem, c0, c1, c2, c3, c4, c5, e0, e1, e2, e3, e4, e5]) rfl ?_
  exact ⟨rfl, set6_below B.out (by omega) _ _ _ _ _ _⟩
set_option maxRecDepth 100000 in
set_option maxHeartbeats 2000000 in
theorem ref37_Drop_kids (x : Int) (hx : 0 ≤ PC.place N x) (h0 : childN N up x ≠ []) (hNl : N.length ≤ 4096) (h : RefF P w V n g O cl fr N up) :
    Calls Try.prog 38 #[V, .int .i64 x] w fun e w' => e = .returned (.tuple #[V, .bool false]) ∧ Below w.heap.size w w' := by
  obtain ⟨Ao, co, Ag, cg, Ac, cc, An, cn, Ap, cp, rfl, h1, h2, h3⟩ := h
  obtain ⟨k, hk⟩ : ∃ k : Nat, PC.place N x = (k : Int) := ⟨(PC.place N x).toNat, by omega⟩
  have KA : Hid (∀ W, Below w.heap.size w W → Calls Try.prog 110 #[.agg #[.slice Ao n co, .slice Ag n cg, .slice Ac cl.length cc, .int .i64 (fr : Int), .slice An N.length cn, .slice Ap N.length cp], .int .i64 x] W fun e w' => e = .returned (.int .i64 (k : Int)) ∧ Below W.heap.size W w') := Lib.hid (fun W hW => by
    have := ref37_At (P := P) (g := g) (O := O) (up := up) x (RefF.keep ⟨Ao, co, Ag, cg, Ac, cc, An, cn, Ap, cp, rfl, h1, h2, h3⟩ hW)
    rwa [hk] at this)
  have KH : Hid (∀ W, Below w.heap.size w W → Calls Try.prog 47 #[.agg #[.slice Ao n co, .slice Ag n cg, .slice Ac cl.length cc, .int .i64 (fr : Int), .slice An N.length cn, .slice Ap N.length cp], .int .i64 x] W (GivesInts W (ints (childN N up x)))) := Lib.hid (fun W hW => ref37_Children (P := P) (g := g) (O := O) (up := up) x (by omega) (RefF.keep ⟨Ao, co, Ag, cg, Ac, cc, An, cn, Ap, cp, rfl, h1, h2, h3⟩ hW))
  have HH0 : Hid (0 < (childN N up x).length) := Lib.hid (by
    rcases hl : childN N up x with _ | ⟨y, l⟩
    · exact absurd hl h0
    · simp)
  have j2 : decide ((k : Int) < (0 : Int)) = false := decide_eq_false (by omega)
  have j3 : ¬ (k : Int) < (0 : Int) := by omega
  clear hx h0 hk hNl
  obtain ⟨m, hm⟩ : ∃ m, cl.length = m := ⟨_, rfl⟩
  rw [hm] at KA KH ⊢
  clear h1 h2 h3 hm
  go_enter Try.func38, Try.ntmps38
  go_upto_region 1 with (fail)
  refine region_name ?_
  rintro W0 hW0
  have r0 : RowAt W0 w.heap.size 58 [.slice Ao n co, .slice Ag n cg, .slice Ac m cc, .int .i64 (fr : Int), .slice An N.length cn, .slice Ap N.length cp] := by
    rw [hW0]; exact (RowAt.new w 58 _).alloc _
  have s0 : RowAt W0 (w.heap.size + 1) 58 [.slice none 0 0, .slice none 0 0, .slice none 0 0, .int .i64 0, .slice none 0 0, .slice none 0 0] := by
    rw [hW0]
    have := RowAt.new (w.alloc (.cells #[.slice Ao n co, .slice Ag n cg, .slice Ac m cc, .int .i64 (fr : Int), .slice An N.length cn, .slice Ap N.length cp] 58)) 58 [.slice none 0 0, .slice none 0 0, .slice none 0 0, .int .i64 0, .slice none 0 0, .slice none 0 0]
    simpa using this
  have b0 : Below w.heap.size w W0 := by rw [hW0]; exact (by repeat (first | exact Below.refl _ _ | assumption | refine bel_drew ?_ | refine bel_drewN ?_ _ | refine bel_alloc ?_ _ | refine bel_set ?_ (by first | (dsimp only; omega) | (simp; done) | (simp; omega)) _ | refine bel_trans ?_ (by assumption)))
  clear hW0
  have c0 : W0.cell? ⟨w.heap.size, 0, none⟩ = some (.slice Ao n co) := by rw [r0.cell]; rfl
  have c1 : W0.cell? ⟨w.heap.size, 1, none⟩ = some (.slice Ag n cg) := by rw [r0.cell]; rfl
  have c2 : W0.cell? ⟨w.heap.size, 2, none⟩ = some (.slice Ac m cc) := by rw [r0.cell]; rfl
  have c3 : W0.cell? ⟨w.heap.size, 3, none⟩ = some (.int .i64 (fr : Int)) := by rw [r0.cell]; rfl
  have c4 : W0.cell? ⟨w.heap.size, 4, none⟩ = some (.slice An N.length cn) := by rw [r0.cell]; rfl
  have c5 : W0.cell? ⟨w.heap.size, 5, none⟩ = some (.slice Ap N.length cp) := by rw [r0.cell]; rfl
  go_wp2_with fail
  refine (KA.out _ b0).mono ?_
  rintro e w1 ⟨rfl, hb⟩
  have r1 := r0.keep hb
  have s1 := s0.keep hb
  have b1 := bel_trans b0 hb
  clear c0 c1 c2 c3 c4 c5 r0 s0 b0 hb
  have c0 : w1.cell? ⟨w.heap.size, 0, none⟩ = some (.slice Ao n co) := by rw [r1.cell]; rfl
  have c1 : w1.cell? ⟨w.heap.size, 1, none⟩ = some (.slice Ag n cg) := by rw [r1.cell]; rfl
  have c2 : w1.cell? ⟨w.heap.size, 2, none⟩ = some (.slice Ac m cc) := by rw [r1.cell]; rfl
  have c3 : w1.cell? ⟨w.heap.size, 3, none⟩ = some (.int .i64 (fr : Int)) := by rw [r1.cell]; rfl
  have c4 : w1.cell? ⟨w.heap.size, 4, none⟩ = some (.slice An N.length cn) := by rw [r1.cell]; rfl
  have c5 : w1.cell? ⟨w.heap.size, 5, none⟩ = some (.slice Ap N.length cp) := by rw [r1.cell]; rfl
  go_wp2_with fail
  refine (KH.out _ b1).mono ?_
  rintro e w2 ⟨A2, m2, c2', rfl, hA, hb⟩
  have hm2 : 0 < (m2 : Int) := by have := hA.1.1; rw [ints_len] at this; have := HH0.out; omega
  clear hA
  have r2 := r1.keep hb
  have s2 := s1.keep hb
  have b2 := bel_trans b1 hb
  clear c0 c1 c2 c3 c4 c5 r1 s1 b1 hb
  have c0 : w2.cell? ⟨w.heap.size, 0, none⟩ = some (.slice Ao n co) := by rw [r2.cell]; rfl
  have c1 : w2.cell? ⟨w.heap.size, 1, none⟩ = some (.slice Ag n cg) := by rw [r2.cell]; rfl
  have c2 : w2.cell? ⟨w.heap.size, 2, none⟩ = some (.slice Ac m cc) := by rw [r2.cell]; rfl
  have c3 : w2.cell? ⟨w.heap.size, 3, none⟩ = some (.int .i64 (fr : Int)) := by rw [r2.cell]; rfl
  have c4 : w2.cell? ⟨w.heap.size, 4, none⟩ = some (.slice An N.length cn) := by rw [r2.cell]; rfl
  have c5 : w2.cell? ⟨w.heap.size, 5, none⟩ = some (.slice Ap N.length cp) := by rw [r2.cell]; rfl
  have e0 := (s2.cell 0).trans rfl
  have e1 := (s2.cell 1).trans rfl
  have e2 := (s2.cell 2).trans rfl
  have e3 := (s2.cell 3).trans rfl
  have e4 := (s2.cell 4).trans rfl
  have e5 := (s2.cell 5).trans rfl
  have f0 := s2.frozen 0
  have f1 := s2.frozen 1
  have f2 := s2.frozen 2
  have f3 := s2.frozen 3
  have f4 := s2.frozen 4
  have f5 := s2.frozen 5
  have B := Lib.hid b2
  clear r2 s2 b2
  go_wp2_with fail
  refine bodyPost_ret (v := .tuple #[.agg #[.slice Ao n co, .slice Ag n cg, .slice Ac m cc, .int .i64 (fr : Int), .slice An N.length cn, .slice Ap N.length cp], .bool false]) (by simp [results, Try.results38, go_sem, c0, c1, c2, c3, c4, c5, e0, e1, e2, e3, e4, e5]) rfl ?_
  exact ⟨rfl, set6_below B.out (by omega) _ _ _ _ _ _⟩
end Go.Proofs.Ytdhcmnbajkpjiaa
/-
  x[:k] and x[k:] of slices of ints: one step, whatever the capacity; what they read as.
-/
namespace Go.Proofs.Ytdhcmnbajkpjiaa
open Go.RowKit
set_option linter.unusedVariables false
set_option linter.unusedSimpArgs false
attribute [local go_sem] drewN_alloc drewN_setCell

def fromA (A : Option Addr) (c k : Nat) : Option Addr := if c = k then A else A.map (·.add (k * 1))
theorem ints_elem : Try.prog.underlying 27 = some (.slice (Try.prog.elem 27)) := by kernel_rfl
theorem ints_size (w : World) : (sizeOf (Try.prog.elem 27)).run Try.prog w = .ok 1 w := by kernel_rfl
theorem exec_from {a : Act} {o : Oper} {x l : Nat} {A : Option Addr} {n c k : Nat} {w : World} (ho : o.op = .slice 27 (.tmp x) (some (.tmp l)) none none) (hx : a.eval (.tmp x) = .slice A n c) (hl : a.eval (.tmp l) = .int .i64 (k : Int)) (hk : k ≤ n) :
    (execOp a.eval o).run Try.prog w = .ok (.value (.slice (fromA A c k) (n - k) (c - k))) w := by
  have hs : (Instr.sliceAt 27 (.slice A n c) (some (.int .i64 (k : Int))) none none).run Try.prog w = .ok (.slice (fromA A c k) (n - k) (c - k)) w := by
    rw [run_sliceAt_slice (h := ints_elem), run_slice_l (ht := ints_elem) (h0 := by omega) (h1 := by omega), ints_size]
    simp only [Result.andThen, sliced, fromA, Int.toNat_natCast]
  unfold execOp
  simp only [ho, hx, hl, Option.map_some, Option.map_none, Sem.run_bind, hs, Result.andThen]
  rfl
theorem exec_to {a : Act} {o : Oper} {x l : Nat} {A : Option Addr} {n c k : Nat} {w : World} (ho : o.op = .slice 27 (.tmp x) none (some (.tmp l)) none) (hx : a.eval (.tmp x) = .slice A n c) (hl : a.eval (.tmp l) = .int .i64 (k : Int)) (hk : k ≤ c) :
    (execOp a.eval o).run Try.prog w = .ok (.value (.slice (fromA A c 0) k c)) w := by
  have hs : (Instr.sliceAt 27 (.slice A n c) none (some (.int .i64 (k : Int))) none).run Try.prog w = .ok (.slice (fromA A c 0) k c) w := by
    rw [run_sliceAt_slice (h := ints_elem), run_slice_h (ht := ints_elem) (h0 := by omega) (h2 := by omega), ints_size]
    simp only [Result.andThen, sliced, fromA, Int.toNat_natCast, Nat.sub_zero]
  unfold execOp
  simp only [ho, hx, hl, Option.map_some, Option.map_none, Sem.run_bind, hs, Result.andThen]
  rfl
theorem VAt.src_from {P : Nat → Prop} {w : World} {A : Option Addr} {n c : Nat} {vs : List Value} (h : VAt P w A n c vs) {k : Nat} (hk : k ≤ n) : SrcS 1 w (fromA A c k) (n - k) (vs.drop k) := by
  have h1 := h.1
  have h2 := h.2.1
  refine ⟨by rw [List.length_drop]; omega, fun e => ?_, fun ad e j u hu => ?_⟩
  · rcases Nat.eq_zero_or_pos n with h0 | h0
    · omega
    · obtain ⟨b, off, e2, _⟩ := h.2.2.2 h0
      unfold fromA at e
      rw [e2] at e
      split at e <;> cases e
  · rw [List.getElem?_drop] at hu
    have hj : k + j < vs.length := by
      rcases Nat.lt_or_ge (k + j) vs.length with h3 | h3
      · exact h3
      · rw [List.getElem?_eq_none h3] at hu; cases hu
    obtain ⟨b, off, e2, _, _, h3⟩ := h.2.2.2 (by omega)
    unfold fromA at e
    rw [e2, if_neg (by omega)] at e
    cases e
    show w.cell? (((⟨b, off, none⟩ : Addr).add (k * 1)).add j) = some u
    rw [addr_addS, addr_addS, Nat.mul_one]
    have := h3 (k + j) u hu
    rw [← Nat.add_assoc] at this
    exact this
theorem VAt.src_to {P : Nat → Prop} {w : World} {A : Option Addr} {n c : Nat} {vs : List Value} (h : VAt P w A n c vs) {k : Nat} (hk : k ≤ n) : SrcS 1 w (fromA A c 0) k (vs.take k) := by
  have h1 := h.1
  have h2 := h.2.1
  refine ⟨by rw [List.length_take]; omega, fun e => ?_, fun ad e j u hu => ?_⟩
  · rcases Nat.eq_zero_or_pos n with h0 | h0
    · omega
    · obtain ⟨b, off, e2, _⟩ := h.2.2.2 h0
      unfold fromA at e
      rw [e2] at e
      split at e <;> cases e
  · have hj : j < k ∧ vs[j]? = some u := by
      rw [List.getElem?_take] at hu
      split at hu
      · exact ⟨by assumption, hu⟩
      · cases hu
    obtain ⟨b, off, e2, _, _, h3⟩ := h.2.2.2 (by omega)
    unfold fromA at e
    rw [e2, if_neg (by omega)] at e
    cases e
    show w.cell? (((⟨b, off, none⟩ : Addr).add (0 * 1)).add j) = some u
    rw [addr_addS, addr_addS, Nat.zero_mul, Nat.add_zero]
    exact h3 j u hj.2
theorem cellsI_drop (l : List Int) (k : Nat) : (cellsI l).drop k = cellsI (l.drop k) := by simp [cellsI, List.map_drop]
theorem cellsI_take (l : List Int) (k : Nat) : (cellsI l).take k = cellsI (l.take k) := by simp [cellsI, List.map_take]
section
variable {P : Program} {ops : Array Oper} {Q : Exit → Act → World → Prop} {md : Region.Mode} {S : World → Prop}
/-- An operation that is carried out, and yields v in every world. -/
theorem tk_it (i : Nat) {oi : Oper} (v : Value) {fuel : Nat} {listed : Array Bool} {a : Act} {w : World} (hi : ops.toList[i]? = some oi)
    (hs : Region.noSelect ops = true) (hf : Region.free md ops listed i = true) (hr : (Region.ready md ops listed).contains i = true)
    (hQ : ∀ c a w, Q (.panic c) (a.put oi.dst v) w → Q (.panic c) a w) (hw : Region.wanted oi (yielded ops a.tmps) = true) (hS : S w)
    (hy : ∀ w, (execOp a.eval oi).run P w = .ok (.value v) w)
    (h : wpAnyH P md ops Q S fuel (listed.setIfInBounds i true) (a.put oi.dst v) w) : wpAnyH P md ops Q S (fuel + 1) listed a w :=
  tk_yes i hi hs hf hr hQ hw hS (fun w _ => hy w) h
end
end Go.Proofs.Ytdhcmnbajkpjiaa
