/- Part 6 of the proof of RegionStale: lemmas, each with its conditions ahead of it. -/
import Derived.Test.YtdhcmnbajkpjiaaPartRegionStale5
import Derived.Test.YtdhcmnbajkpjiaaPartRegionStale4
/-
  The reference's forest in memory: Drop.
-/
namespace Go.Proofs.Ytdhcmnbajkpjiaa
open Go.RowKit
open Go.Maps
set_option linter.unusedVariables false
set_option linter.unusedSimpArgs false
attribute [local go_sem] drewN_alloc drewN_setCell

variable {P : Nat → Prop} {w w' : World} {V : Value} {n : Nat} {g : List Int} {O cl : List Nat} {fr : Nat} {N : List Nat} {up : List Int}
theorem RefS.parts {Ao Ag Ac : Option Addr} {co cg m cc : Nat} {f : Int} (h : RefS P w (.agg #[.slice Ao n co, .slice Ag n cg, .slice Ac m cc, .int .i64 f]) n g O cl fr) : VAt P w Ao n co (cellsB (openL n O)) ∧ VAt P w Ag n cg (cellsI g) ∧ VAt P w Ac m cc (cellsI (ints cl)) := by
  obtain ⟨Ao', co', Ag', cg', Ac', cc', e, h1, h2, h3⟩ := h
  simp only [Value.agg.injEq, Array.mk.injEq, List.cons.injEq, Value.slice.injEq, and_true, true_and] at e
  obtain ⟨⟨rfl, rfl⟩, ⟨rfl, rfl⟩, ⟨rfl, rfl, rfl⟩, _⟩ := e
  exact ⟨h1, h2, h3⟩
/-- What Drop hands back. -/
def GDropF (P : Nat → Prop) (n : Nat) (g : List Int) (O cl : List Nat) (fr : Nat) (N : List Nat) (up : List Int) (p : Nat) (w : World) (e : Ending) (w' : World) : Prop :=
  ∃ V', e = .returned (.tuple #[V', .bool true]) ∧ RefF P w' V' n (g.set p (IntKind.i64.wrap (g.getD p 0 + 1))) (O.erase p) (cl ++ [p]) fr (PC.cut N p) up ∧ Below w.heap.size w w'
set_option maxRecDepth 100000 in
set_option maxHeartbeats 8000000 in
theorem ref37_Drop_yes (p : Nat) (hp : p ∈ N) (hpO : p ∈ O) (h0 : childN N up (p : Int) = []) (hi : SlInv n O cl fr) (hn : n ≤ 4096) (hNl : N.length ≤ 4096) (hP : ∀ b, w.heap.size ≤ b → P b) (h : RefF P w V n g O cl fr N up) :
    Calls Try.prog 38 #[V, .int .i64 (p : Int)] w (GDropF P n g O cl fr N up p w) := by
  have hpn : p < n := by have := hi.o2 p hpO; have := hi.f1; omega
  have hkN := List.idxOf_lt_length_iff.2 hp
  obtain ⟨k, hk⟩ : ∃ k, N.idxOf p = k := ⟨_, rfl⟩
  rw [hk] at hkN
  have hpl : PC.place N (p : Int) = (k : Int) := by unfold PC.place; rw [if_pos ⟨by omega, by simpa using hp⟩, ← hk]; simp
  have hU : Hid ([] ++ (upsOf N up).take k ++ (upsOf N up).drop (k + 1) = upsOf (PC.cut N p) up) := Lib.hid (by
    unfold upsOf; rw [up_cut, hk]; simp)
  have hNn : Hid ([] ++ (ints N).take k ++ (ints N).drop (k + 1) = ints (PC.cut N p)) := Lib.hid (by
    unfold PC.cut ints; rw [hk]; simp [List.map_take, List.map_drop])
  have hh : RefF (fun b => P b ∧ b ≠ w.heap.size + 1) w V n g O cl fr N up := h.mono (fun b hb hPb => ⟨hPb, by omega⟩)
  obtain ⟨Ao, co, Ag, cg, Ac, cc, An, cn, Ap, cp, rfl, h1, h2, h3⟩ := hh
  clear h
  have HP := Lib.hid hP
  have H2 := Lib.hid h2
  have H3 := Lib.hid h3
  have hrr : rightB O g (p : Int) (g.getD p 0) = true := by
    unfold rightB
    rw [decide_eq_true (in_ints.2 hpO)]
    simp
  obtain ⟨gp, hgp⟩ : ∃ gp, g.getD p 0 = gp := ⟨_, rfl⟩
  rw [hgp] at hrr
  have HGP := Lib.hid hgp
  have KA : Hid (∀ W, Below w.heap.size w W → Calls Try.prog 110 #[.agg #[.slice Ao n co, .slice Ag n cg, .slice Ac cl.length cc, .int .i64 (fr : Int), .slice An N.length cn, .slice Ap N.length cp], .int .i64 (p : Int)] W fun e w' => e = .returned (.int .i64 (k : Int)) ∧ Below W.heap.size W w') := Lib.hid (fun W hW => by
    have := ref37_At (P := fun b => P b ∧ b ≠ w.heap.size + 1) (g := g) (O := O) (up := up) (p : Int) (RefF.keep ⟨Ao, co, Ag, cg, Ac, cc, An, cn, Ap, cp, rfl, h1, h2, h3⟩ hW)
    rwa [hpl] at this)
  have KH : Hid (∀ W, Below w.heap.size w W → Calls Try.prog 47 #[.agg #[.slice Ao n co, .slice Ag n cg, .slice Ac cl.length cc, .int .i64 (fr : Int), .slice An N.length cn, .slice Ap N.length cp], .int .i64 (p : Int)] W (GivesInts W (ints []))) := Lib.hid (fun W hW => by
    have := ref37_Children (P := fun b => P b ∧ b ≠ w.heap.size + 1) (g := g) (O := O) (up := up) (p : Int) (by omega) (RefF.keep ⟨Ao, co, Ag, cg, Ac, cc, An, cn, Ap, cp, rfl, h1, h2, h3⟩ hW)
    rwa [h0] at this)
  have KC : Hid (∀ (P2 : Nat → Prop) W, Below w.heap.size w W → (∀ b, b < w.heap.size → P b → P2 b) → (∀ b, W.heap.size ≤ b → P2 b) → Calls Try.prog 111 #[.agg #[.slice Ao n co, .slice Ag n cg, .slice Ac cl.length cc, .int .i64 (fr : Int)], .int .i64 (p : Int), .int .i64 gp] W (GClose P2 n g O cl fr p gp W)) := Lib.hid (fun P2 W hW hq1 hq2 => ref06_Close p gp hrr hi hn hq2 ((h1.mono (fun b hb h => hq1 b hb h.1)).keep hW))
  have h1b := h1.parts.2.1
  have hgl : g.length = n := by have := h1b.1; simpa [cellsI] using this
  obtain ⟨bg, og, rfl, hbg, cgp⟩ := h1b.at (cellsI_at (l := g) (i := p) (by omega))
  rw [hgp] at cgp
  have j0 : (0 : Int) ≤ (p : Int) := by omega
  have j1 : (p : Int) < (n : Int) := by omega
  have j2 : decide ((k : Int) < (0 : Int)) = false := decide_eq_false (by omega)
  have j3 : ¬ (k : Int) < (0 : Int) := by omega
  obtain ⟨m, hm⟩ : ∃ m, cl.length = m := ⟨_, rfl⟩
  rw [hm] at KA KH KC ⊢
  obtain ⟨k1, hk1⟩ : ∃ k1, k + 1 = k1 := ⟨_, rfl⟩
  rw [hk1] at hU hNn
  have hw : IntKind.i64.wrap ((k : Int) + 1) = (k1 : Int) := by rw [IntKind.wrap_i64]; omega
  have HK1 : Hid (k1 ≤ N.length) := Lib.hid (by omega)
  have HKn : Hid (k ≤ cn) := Lib.hid (by have := h2.2.1; omega)
  have HKp : Hid (k ≤ cp) := Lib.hid (by have := h3.2.1; omega)
  have HL1 : Hid (([] : List Int).length + k ≤ 1048576) := Lib.hid (by simp; omega)
  have HL2 : Hid (([] ++ (ints N).take k : List Int).length + (N.length - k1) ≤ 1048576) := Lib.hid (by simp [ints]; omega)
  have HL4 : Hid (([] ++ (upsOf N up).take k : List Int).length + (N.length - k1) ≤ 1048576) := Lib.hid (by simp [upsOf]; omega)
  have HKN := Lib.hid (Nat.le_of_lt hkN)
  clear h1 h2 h3 hp hi hpO h0 hP hm hgp hrr hk hpl hpn h1b hgl hk1 hkN hNl hn
  go_enter Try.func38, Try.ntmps38
  go_upto_region 1 with (fail)
  refine region_name ?_
  rintro W0 hW0
  have r0 : RowAt W0 w.heap.size 58 [.slice Ao n co, .slice (some ⟨bg, og, none⟩) n cg, .slice Ac m cc, .int .i64 (fr : Int), .slice An N.length cn, .slice Ap N.length cp] := by
    rw [hW0]; exact (RowAt.new w 58 _).alloc _
  have s0 : RowAt W0 (w.heap.size + 1) 58 [.slice none 0 0, .slice none 0 0, .slice none 0 0, .int .i64 0, .slice none 0 0, .slice none 0 0] := by
    rw [hW0]
    have := RowAt.new (w.alloc (.cells #[.slice Ao n co, .slice (some ⟨bg, og, none⟩) n cg, .slice Ac m cc, .int .i64 (fr : Int), .slice An N.length cn, .slice Ap N.length cp] 58)) 58 [.slice none 0 0, .slice none 0 0, .slice none 0 0, .int .i64 0, .slice none 0 0, .slice none 0 0]
    simpa using this
  have b0 : Below w.heap.size w W0 := by rw [hW0]; exact (by repeat (first | exact Below.refl _ _ | assumption | refine bel_drew ?_ | refine bel_drewN ?_ _ | refine bel_alloc ?_ _ | refine bel_set ?_ (by first | (dsimp only; omega) | (simp; done) | (simp; omega)) _ | refine bel_trans ?_ (by assumption)))
  have z0 : w.heap.size + 2 ≤ W0.heap.size := by rw [hW0]; simp
  clear hW0
  have c0 : W0.cell? ⟨w.heap.size, 0, none⟩ = some (.slice Ao n co) := by rw [r0.cell]; rfl
  have c1 : W0.cell? ⟨w.heap.size, 1, none⟩ = some (.slice (some ⟨bg, og, none⟩) n cg) := by rw [r0.cell]; rfl
  have c2 : W0.cell? ⟨w.heap.size, 2, none⟩ = some (.slice Ac m cc) := by rw [r0.cell]; rfl
  have c3 : W0.cell? ⟨w.heap.size, 3, none⟩ = some (.int .i64 (fr : Int)) := by rw [r0.cell]; rfl
  have c4 : W0.cell? ⟨w.heap.size, 4, none⟩ = some (.slice An N.length cn) := by rw [r0.cell]; rfl
  have c5 : W0.cell? ⟨w.heap.size, 5, none⟩ = some (.slice Ap N.length cp) := by rw [r0.cell]; rfl
  go_wp2_with fail
  refine (KA.out _ b0).mono ?_
  rintro e w1 ⟨rfl, hb1⟩
  have r1 := r0.keep hb1
  have s1 := s0.keep hb1
  have b1 := bel_trans b0 hb1
  have z1 := Nat.le_trans z0 hb1.size
  clear c0 c1 c2 c3 c4 c5 r0 s0 b0 hb1 z0
  have c0 : w1.cell? ⟨w.heap.size, 0, none⟩ = some (.slice Ao n co) := by rw [r1.cell]; rfl
  have c1 : w1.cell? ⟨w.heap.size, 1, none⟩ = some (.slice (some ⟨bg, og, none⟩) n cg) := by rw [r1.cell]; rfl
  have c2 : w1.cell? ⟨w.heap.size, 2, none⟩ = some (.slice Ac m cc) := by rw [r1.cell]; rfl
  have c3 : w1.cell? ⟨w.heap.size, 3, none⟩ = some (.int .i64 (fr : Int)) := by rw [r1.cell]; rfl
  have c4 : w1.cell? ⟨w.heap.size, 4, none⟩ = some (.slice An N.length cn) := by rw [r1.cell]; rfl
  have c5 : w1.cell? ⟨w.heap.size, 5, none⟩ = some (.slice Ap N.length cp) := by rw [r1.cell]; rfl
  go_wp2_with fail
  refine (KH.out _ b1).mono ?_
  rintro e u2 ⟨A2, m2, c2', rfl, hA, hb2⟩
  have hm2 : m2 = 0 := by have := hA.1.1; rw [ints_len] at this; exact this.symm
  subst hm2
  have r2 := r1.keep hb2
  have s2 := s1.keep hb2
  have b2 := bel_trans b1 hb2
  have z2 := Nat.le_trans z1 hb2.size
  clear c0 c1 c2 c3 c4 c5 r1 s1 b1 hb2 z1 hA
  go_upto_region 4 with (fail)
  have cg2 : u2.cell? ⟨bg, og + p, none⟩ = some (.int .i64 gp) := (b2.cell (p := ⟨bg, og + p, none⟩) hbg).trans cgp
  have lt0 : w.heap.size < u2.heap.size := by omega
  have ltg : bg < u2.heap.size := by omega
  have hS : Hid (∀ W : World, Below u2.heap.size u2 W → (fun W : World => W.cell? ⟨w.heap.size, 0, none⟩ = some (.slice Ao n co) ∧ W.cell? ⟨w.heap.size, 1, none⟩ = some (.slice (some ⟨bg, og, none⟩) n cg) ∧ W.cell? ⟨w.heap.size, 2, none⟩ = some (.slice Ac m cc) ∧ W.cell? ⟨w.heap.size, 3, none⟩ = some (.int .i64 (fr : Int)) ∧ W.cell? ⟨bg, og + p, none⟩ = some (.int .i64 gp)) W) := Lib.hid (fun W hW => ⟨(hW.cell (p := ⟨w.heap.size, 0, none⟩) lt0).trans ((r2.cell 0).trans rfl), (hW.cell (p := ⟨w.heap.size, 1, none⟩) lt0).trans ((r2.cell 1).trans rfl), (hW.cell (p := ⟨w.heap.size, 2, none⟩) lt0).trans ((r2.cell 2).trans rfl), (hW.cell (p := ⟨w.heap.size, 3, none⟩) lt0).trans ((r2.cell 3).trans rfl), (hW.cell (p := ⟨bg, og + p, none⟩) ltg).trans cg2⟩)
  replace KC : Hid (∀ (P2 : Nat → Prop) W, Below u2.heap.size u2 W → (∀ b, b < w.heap.size → P b → P2 b) → (∀ b, W.heap.size ≤ b → P2 b) → Calls Try.prog 111 #[.agg #[.slice Ao n co, .slice (some ⟨bg, og, none⟩) n cg, .slice Ac m cc, .int .i64 (fr : Int)], .int .i64 (p : Int), .int .i64 gp] W (GClose P2 n g O cl fr p gp W)) := Lib.hid (fun P2 W hW h1 h2 => KC.out P2 W (bel_trans b2 hW) h1 h2)
  clear cg2 cgp
  refine wp_region_held_drew (S := (fun W : World => W.cell? ⟨w.heap.size, 0, none⟩ = some (.slice Ao n co) ∧ W.cell? ⟨w.heap.size, 1, none⟩ = some (.slice (some ⟨bg, og, none⟩) n cg) ∧ W.cell? ⟨w.heap.size, 2, none⟩ = some (.slice Ac m cc) ∧ W.cell? ⟨w.heap.size, 3, none⟩ = some (.int .i64 (fr : Int)) ∧ W.cell? ⟨bg, og + p, none⟩ = some (.int .i64 gp))) (by kernel_rfl) ?_ (fun hHeld => ?_)
  focus ((try dsimp only); exact hS.out _ (by repeat (first | exact Below.refl _ _ | assumption | refine bel_drew ?_ | refine bel_drewN ?_ _ | refine bel_alloc ?_ _ | refine bel_trans ?_ (by assumption))))
  refine tk_yes 0 (v := ?_) rfl (by kernel_rfl) (by kernel_rfl) (by kernel_rfl) (fun _ _ _ h => h) (by kernel_rfl) (by assumption) ?_ ?_; rotate_left; (focus (intro w hSw; (try dsimp only at hSw); go_simp; (first | done | (with_reducible rfl)))); (try simp only [Act.put, List.setIfInBounds_toArray, List.set_cons_zero, List.set_cons_succ])
  refine tk_yes 1 (v := ?_) rfl (by kernel_rfl) (by kernel_rfl) (by kernel_rfl) (fun _ _ _ h => h) (by kernel_rfl) (by assumption) ?_ ?_; rotate_left; (focus (intro w hSw; (try dsimp only at hSw); go_simp; (first | done | (with_reducible rfl)))); (try simp only [Act.put, List.setIfInBounds_toArray, List.set_cons_zero, List.set_cons_succ])
  refine tk_yes 2 (v := ?_) rfl (by kernel_rfl) (by kernel_rfl) (by kernel_rfl) (fun _ _ _ h => h) (by kernel_rfl) (by assumption) ?_ ?_; rotate_left; (focus (intro w hSw; (try dsimp only at hSw); go_simp; (first | done | (with_reducible rfl)))); (try simp only [Act.put, List.setIfInBounds_toArray, List.set_cons_zero, List.set_cons_succ])
  refine tk_yes 3 (v := ?_) rfl (by kernel_rfl) (by kernel_rfl) (by kernel_rfl) (fun _ _ _ h => h) (by kernel_rfl) (by assumption) ?_ ?_; rotate_left; (focus (intro w hSw; (try dsimp only at hSw); go_simp; (first | done | (with_reducible rfl)))); (try simp only [Act.put, List.setIfInBounds_toArray, List.set_cons_zero, List.set_cons_succ])
  refine tk_yes 4 (v := ?_) rfl (by kernel_rfl) (by kernel_rfl) (by kernel_rfl) (fun _ _ _ h => h) (by kernel_rfl) (by assumption) ?_ ?_; rotate_left; (focus (intro w hSw; (try dsimp only at hSw); go_simp; (first | done | (with_reducible rfl)))); (try simp only [Act.put, List.setIfInBounds_toArray, List.set_cons_zero, List.set_cons_succ])
  refine tk_yes 5 (v := ?_) rfl (by kernel_rfl) (by kernel_rfl) (by kernel_rfl) (fun _ _ _ h => h) (by kernel_rfl) (by assumption) ?_ ?_; rotate_left; (focus (intro w hSw; (try dsimp only at hSw); go_simp; (first | done | (with_reducible rfl)))); (try simp only [Act.put, List.setIfInBounds_toArray, List.set_cons_zero, List.set_cons_succ])
  refine tk_yes 6 (v := ?_) rfl (by kernel_rfl) (by kernel_rfl) (by kernel_rfl) (fun _ _ _ h => h) (by kernel_rfl) (by assumption) ?_ ?_; rotate_left; (focus (intro w hSw; (try dsimp only at hSw); go_simp; (first | done | (with_reducible rfl)))); (try simp only [Act.put, List.setIfInBounds_toArray, List.set_cons_zero, List.set_cons_succ])
  refine tk_yes 7 (v := ?_) rfl (by kernel_rfl) (by kernel_rfl) (by kernel_rfl) (fun _ _ _ h => h) (by kernel_rfl) (by assumption) ?_ ?_; rotate_left; (focus (intro w hSw; (try dsimp only at hSw); go_simp; (first | done | (with_reducible rfl)))); (try simp only [Act.put, List.setIfInBounds_toArray, List.set_cons_zero, List.set_cons_succ])
  refine tk_yes 8 (v := ?_) rfl (by kernel_rfl) (by kernel_rfl) (by kernel_rfl) (fun _ _ _ h => h) (by kernel_rfl) (by assumption) ?_ ?_; rotate_left; (focus (intro w hSw; (try dsimp only at hSw); go_simp; (first | done | (with_reducible rfl)))); (try simp only [Act.put, List.setIfInBounds_toArray, List.set_cons_zero, List.set_cons_succ])
  refine dag_name ?_
  intro OPS Q' a0 hO hQ ha
  have LF : ∀ (u3 : World) (b8 : Nat) (Ao' Ag' Ac' : Option Addr) (co' cg' m' cc' : Nat), Below u2.heap.size u2 u3 → RowAt u3 b8 56 [.slice none 0 0, .slice none 0 0, .slice none 0 0, .int .i64 0] → w.heap.size + 2 ≤ b8 → u2.heap.size ≤ b8 → (cl ++ [p]).length = m' → VAt (fun b => P b ∧ b ≠ w.heap.size + 1 ∧ b ≠ b8) u3 Ao' n co' (cellsB (openL n (O.erase p))) → VAt (fun b => P b ∧ b ≠ w.heap.size + 1 ∧ b ≠ b8) u3 Ag' n cg' (cellsI (g.set p (IntKind.i64.wrap (gp + 1)))) → VAt (fun b => P b ∧ b ≠ w.heap.size + 1 ∧ b ≠ b8) u3 Ac' m' cc' (cellsI (ints (cl ++ [p]))) → wpAnyH Try.prog .any OPS Q' (fun W : World => W.cell? ⟨w.heap.size, 0, none⟩ = some (.slice Ao n co) ∧ W.cell? ⟨w.heap.size, 1, none⟩ = some (.slice (some ⟨bg, og, none⟩) n cg) ∧ W.cell? ⟨w.heap.size, 2, none⟩ = some (.slice Ac m cc) ∧ W.cell? ⟨w.heap.size, 3, none⟩ = some (.int .i64 (fr : Int)) ∧ W.cell? ⟨bg, og + p, none⟩ = some (.int .i64 gp)) 2 #[true, true, true, true, true, true, true, true, true, true, true, true, true, true, false, false] (((((a0.put (some 32) (.tuple #[.agg #[.slice Ao' n co', .slice Ag' n cg', .slice Ac' m' cc', .int .i64 (fr : Int)], .bool true])).put (some 22) (.tuple #[.agg #[.slice Ao' n co', .slice Ag' n cg', .slice Ac' m' cc', .int .i64 (fr : Int)], .bool true])).put (some 33) (.agg #[.slice Ao' n co', .slice Ag' n cg', .slice Ac' m' cc', .int .i64 (fr : Int)])).put (some 34) (.bool true)).put (some 7) (.pointer (some ⟨b8, 0, none⟩))) u3 := by
    intro u3 b8 Ao' Ag' Ac' co' cg' m' cc' hbb t3 z3 z3b hm' q1 q2 q3
    subst hO
    subst ha
    subst hQ
    (try simp only [Act.put, List.setIfInBounds_toArray, List.set_cons_zero, List.set_cons_succ])
    have HM' := Lib.hid hm'
    have q := hS.out _ hbb
    have e0 := (t3.cell 0).trans rfl
    have e1 := (t3.cell 1).trans rfl
    have e2 := (t3.cell 2).trans rfl
    have e3 := (t3.cell 3).trans rfl
    have f0 := t3.frozen 0
    have f1 := t3.frozen 1
    have f2 := t3.frozen 2
    have f3 := t3.frozen 3
    have HNE3 : Hid (w.heap.size ≠ b8) := Lib.hid (by omega)
    have HNE4 : Hid (bg ≠ b8) := Lib.hid (by omega)
    clear hm'
    refine tk_call 14 rfl (by kernel_rfl) (by kernel_rfl) (fun KW hKW => ?_); go_simp; refine hKW.out _ _ ?_ (fun hHeld => ?_); (focus ((try dsimp only); with_reducible exact ⟨set4_cell q.1 HNE3.out _ _ _ _, set4_cell q.2.1 HNE3.out _ _ _ _, set4_cell q.2.2.1 HNE3.out _ _ _ _, set4_cell q.2.2.2.1 HNE3.out _ _ _ _, set4_cell q.2.2.2.2 HNE4.out _ _ _ _⟩)); clear hKW KW; (try simp only [Act.put, List.setIfInBounds_toArray, List.set_cons_zero, List.set_cons_succ])
    refine tk_yes 15 (v := ?_) rfl (by kernel_rfl) (by kernel_rfl) (by kernel_rfl) (fun _ _ _ h => h) (by kernel_rfl) (by assumption) ?_ ?_; rotate_left; (focus (intro w hSw; (try dsimp only at hSw); go_simp; (first | done | (with_reducible rfl)))); (try simp only [Act.put, List.setIfInBounds_toArray, List.set_cons_zero, List.set_cons_succ])
    refine wpAnyH_done (by kernel_rfl) ?_ _
    clear q hS KC KA KH e0 e1 e2 e3 f0 f1 f2 f3
    go_upto_region 5 with (fail)
    refine region_name ?_
    rintro W6 hW6
    have t6 : RowAt W6 b8 56 [.slice Ao' n co', .slice Ag' n cg', .slice Ac' m' cc', .int .i64 (fr : Int)] := by
      rw [hW6]; exact (((t3.set_ 0 _).set_ 1 _).set_ 2 _).set_ 3 _
    have far : ∀ k, k ≠ b8 → W6.heap[k]? = u3.heap[k]? := fun k hk => by rw [hW6]; exact set4_block _ _ _ _ _ _ _ hk
    have r6 : RowAt W6 w.heap.size 58 [.slice Ao n co, .slice (some ⟨bg, og, none⟩) n cg, .slice Ac m cc, .int .i64 (fr : Int), .slice An N.length cn, .slice Ap N.length cp] := (r2.keep hbb).of_block (far _ (by omega))
    have s6 : RowAt W6 (w.heap.size + 1) 58 [.slice none 0 0, .slice none 0 0, .slice none 0 0, .int .i64 0, .slice none 0 0, .slice none 0 0] := (s2.keep hbb).of_block (far _ (by omega))
    have b6 : Below w.heap.size w W6 := by rw [hW6]; exact set4_below (bel_trans b2 hbb) (by omega) _ _ _ _
    have hsz3 : u3.heap.size ≤ W6.heap.size := by rw [hW6]; simp
    have z6 : b8 < W6.heap.size := by have := t3.lt; omega
    clear hW6 r2 s2 b2 hbb t3
    have zlt : w.heap.size < W6.heap.size := by omega
    have q1 := Lib.hid q1
    have q2 := Lib.hid q2
    have q3 := Lib.hid q3
    have HFAR := Lib.hid far
    have HSZ3 := Lib.hid hsz3
    clear far hsz3
    have hS : Hid (∀ W : World, Below W6.heap.size W6 W → (fun W : World => W.cell? ⟨b8, 0, none⟩ = some (.slice Ao' n co') ∧ W.cell? ⟨b8, 1, none⟩ = some (.slice Ag' n cg') ∧ W.cell? ⟨b8, 2, none⟩ = some (.slice Ac' m' cc') ∧ W.cell? ⟨b8, 3, none⟩ = some (.int .i64 (fr : Int)) ∧ W.cell? ⟨w.heap.size, 4, none⟩ = some (.slice An N.length cn) ∧ W.cell? ⟨w.heap.size, 5, none⟩ = some (.slice Ap N.length cp)) W) := Lib.hid (fun W hW => ⟨(hW.cell (p := ⟨b8, 0, none⟩) z6).trans ((t6.cell 0).trans rfl), (hW.cell (p := ⟨b8, 1, none⟩) z6).trans ((t6.cell 1).trans rfl), (hW.cell (p := ⟨b8, 2, none⟩) z6).trans ((t6.cell 2).trans rfl), (hW.cell (p := ⟨b8, 3, none⟩) z6).trans ((t6.cell 3).trans rfl), (hW.cell (p := ⟨w.heap.size, 4, none⟩) zlt).trans ((r6.cell 4).trans rfl), (hW.cell (p := ⟨w.heap.size, 5, none⟩) zlt).trans ((r6.cell 5).trans rfl)⟩)
    have HR : Hid (∀ W : World, Below W6.heap.size W6 W → RowAt W (w.heap.size + 1) 58 [.slice none 0 0, .slice none 0 0, .slice none 0 0, .int .i64 0, .slice none 0 0, .slice none 0 0]) := Lib.hid (fun W hW => s6.keep hW)
    have HN1 : Hid (∀ W : World, Below W6.heap.size W6 W → SrcS 1 W (fromA An cn 0) k (cellsI ((ints N).take k))) := Lib.hid (fun W hW => by
      rw [← cellsI_take]; exact ((H2.out.keep b6).keep hW).src_to HKN.out)
    have HN2 : Hid (∀ W : World, Below W6.heap.size W6 W → SrcS 1 W (fromA An cn k1) (N.length - k1) (cellsI ((ints N).drop k1))) := Lib.hid (fun W hW => by
      rw [← cellsI_drop]; exact ((H2.out.keep b6).keep hW).src_from HK1.out)
    have HN3 : Hid (∀ W : World, Below W6.heap.size W6 W → SrcS 1 W (fromA Ap cp 0) k (cellsI ((upsOf N up).take k))) := Lib.hid (fun W hW => by
      rw [← cellsI_take]; exact ((H3.out.keep b6).keep hW).src_to HKN.out)
    have HN4 : Hid (∀ W : World, Below W6.heap.size W6 W → SrcS 1 W (fromA Ap cp k1) (N.length - k1) (cellsI ((upsOf N up).drop k1))) := Lib.hid (fun W hW => by
      rw [← cellsI_drop]; exact ((H3.out.keep b6).keep hW).src_from HK1.out)
    have HB6 := Lib.hid b6
    have HNE1 : Hid (b8 ≠ w.heap.size + 1) := Lib.hid (by omega)
    have HNE2 : Hid (w.heap.size ≠ w.heap.size + 1) := Lib.hid (by omega)
    clear r6 s6 t6 b6
    refine wp_region_held_drew (S := (fun W : World => W.cell? ⟨b8, 0, none⟩ = some (.slice Ao' n co') ∧ W.cell? ⟨b8, 1, none⟩ = some (.slice Ag' n cg') ∧ W.cell? ⟨b8, 2, none⟩ = some (.slice Ac' m' cc') ∧ W.cell? ⟨b8, 3, none⟩ = some (.int .i64 (fr : Int)) ∧ W.cell? ⟨w.heap.size, 4, none⟩ = some (.slice An N.length cn) ∧ W.cell? ⟨w.heap.size, 5, none⟩ = some (.slice Ap N.length cp))) (by kernel_rfl) ?_ (fun hHeld => ?_)
    focus ((try dsimp only); first | exact q | exact hS.out _ (by repeat (first | exact Below.refl _ _ | assumption | refine bel_drew ?_ | refine bel_drewN ?_ _ | refine bel_alloc ?_ _ | refine bel_trans ?_ (by assumption))))
    refine tk_yes 0 (v := ?_) rfl (by kernel_rfl) (by kernel_rfl) (by kernel_rfl) (fun _ _ _ h => h) (by kernel_rfl) (by assumption) ?_ ?_; rotate_left; (focus (intro w hSw; (try dsimp only at hSw); go_simp; (first | done | (with_reducible rfl)))); (try simp only [Act.put, List.setIfInBounds_toArray, List.set_cons_zero, List.set_cons_succ])
    refine tk_yes 2 (v := ?_) rfl (by kernel_rfl) (by kernel_rfl) (by kernel_rfl) (fun _ _ _ h => h) (by kernel_rfl) (by assumption) ?_ ?_; rotate_left; (focus (intro w hSw; (try dsimp only at hSw); go_simp; (first | done | (with_reducible rfl)))); (try simp only [Act.put, List.setIfInBounds_toArray, List.set_cons_zero, List.set_cons_succ])
    refine tk_yes 3 (v := ?_) rfl (by kernel_rfl) (by kernel_rfl) (by kernel_rfl) (fun _ _ _ h => h) (by kernel_rfl) (by assumption) ?_ ?_; rotate_left; (focus (intro w hSw; (try dsimp only at hSw); go_simp; (first | done | (with_reducible rfl)))); (try simp only [Act.put, List.setIfInBounds_toArray, List.set_cons_zero, List.set_cons_succ])
    refine tk_yes 4 (v := ?_) rfl (by kernel_rfl) (by kernel_rfl) (by kernel_rfl) (fun _ _ _ h => h) (by kernel_rfl) (by assumption) ?_ ?_; rotate_left; (focus (intro w hSw; (try dsimp only at hSw); go_simp; (first | done | (with_reducible rfl)))); (try simp only [Act.put, List.setIfInBounds_toArray, List.set_cons_zero, List.set_cons_succ])
    refine tk_it 5 (.slice (fromA An cn 0) k cn) rfl (by kernel_rfl) (by kernel_rfl) (by kernel_rfl) (fun _ _ _ h => h) (by kernel_rfl) (by assumption) (fun w => exec_to (k := k) rfl rfl rfl HKn.out) ?_; (try simp only [Act.put, List.setIfInBounds_toArray, List.set_cons_zero, List.set_cons_succ])
    refine tk_yes 7 (v := ?_) rfl (by kernel_rfl) (by kernel_rfl) (by kernel_rfl) (fun _ _ _ h => h) (by kernel_rfl) (by assumption) ?_ ?_; rotate_left; (focus (intro w hSw; (try dsimp only at hSw); go_simp; (first | done | (with_reducible rfl)))); (try simp only [Act.put, List.setIfInBounds_toArray, List.set_cons_zero, List.set_cons_succ])
    refine tk_yes 8 (v := ?_) rfl (by kernel_rfl) (by kernel_rfl) (by kernel_rfl) (fun _ _ _ h => h) (by kernel_rfl) (by assumption) ?_ ?_; rotate_left; (focus (intro w hSw; (try dsimp only at hSw); go_simp; (first | done | (with_reducible rfl)))); (try simp only [Act.put, List.setIfInBounds_toArray, List.set_cons_zero, List.set_cons_succ])
    refine tk_yes 9 (v := ?_) rfl (by kernel_rfl) (by kernel_rfl) (by kernel_rfl) (fun _ _ _ h => h) (by kernel_rfl) (by assumption) ?_ ?_; rotate_left; (focus (intro w hSw; (try dsimp only at hSw); go_simp; (first | done | (with_reducible rfl)))); (try simp only [Act.put, List.setIfInBounds_toArray, List.set_cons_zero, List.set_cons_succ])
    refine tk_yes 10 (v := ?_) rfl (by kernel_rfl) (by kernel_rfl) (by kernel_rfl) (fun _ _ _ h => h) (by kernel_rfl) (by assumption) ?_ ?_; rotate_left; (focus (intro w hSw; (try dsimp only at hSw); go_simp; (first | done | (with_reducible rfl)))); (try simp only [Act.put, List.setIfInBounds_toArray, List.set_cons_zero, List.set_cons_succ])
    refine tk_it 11 (.slice (fromA An cn k1) (N.length - k1) (cn - k1)) rfl (by kernel_rfl) (by kernel_rfl) (by kernel_rfl) (fun _ _ _ h => h) (by kernel_rfl) (by assumption) (fun w => exec_from (k := k1) rfl rfl rfl HK1.out) ?_; (try simp only [Act.put, List.setIfInBounds_toArray, List.set_cons_zero, List.set_cons_succ])
    refine tk_yes 14 (v := ?_) rfl (by kernel_rfl) (by kernel_rfl) (by kernel_rfl) (fun _ _ _ h => h) (by kernel_rfl) (by assumption) ?_ ?_; rotate_left; (focus (intro w hSw; (try dsimp only at hSw); go_simp; (first | done | (with_reducible rfl)))); (try simp only [Act.put, List.setIfInBounds_toArray, List.set_cons_zero, List.set_cons_succ])
    refine tk_yes 15 (v := ?_) rfl (by kernel_rfl) (by kernel_rfl) (by kernel_rfl) (fun _ _ _ h => h) (by kernel_rfl) (by assumption) ?_ ?_; rotate_left; (focus (intro w hSw; (try dsimp only at hSw); go_simp; (first | done | (with_reducible rfl)))); (try simp only [Act.put, List.setIfInBounds_toArray, List.set_cons_zero, List.set_cons_succ])
    refine tk_yes 16 (v := ?_) rfl (by kernel_rfl) (by kernel_rfl) (by kernel_rfl) (fun _ _ _ h => h) (by kernel_rfl) (by assumption) ?_ ?_; rotate_left; (focus (intro w hSw; (try dsimp only at hSw); go_simp; (first | done | (with_reducible rfl)))); (try simp only [Act.put, List.setIfInBounds_toArray, List.set_cons_zero, List.set_cons_succ])
    refine tk_it 17 (.slice (fromA Ap cp 0) k cp) rfl (by kernel_rfl) (by kernel_rfl) (by kernel_rfl) (fun _ _ _ h => h) (by kernel_rfl) (by assumption) (fun w => exec_to (k := k) rfl rfl rfl HKp.out) ?_; (try simp only [Act.put, List.setIfInBounds_toArray, List.set_cons_zero, List.set_cons_succ])
    refine tk_yes 19 (v := ?_) rfl (by kernel_rfl) (by kernel_rfl) (by kernel_rfl) (fun _ _ _ h => h) (by kernel_rfl) (by assumption) ?_ ?_; rotate_left; (focus (intro w hSw; (try dsimp only at hSw); go_simp; (first | done | (with_reducible rfl)))); (try simp only [Act.put, List.setIfInBounds_toArray, List.set_cons_zero, List.set_cons_succ])
    refine tk_yes 20 (v := ?_) rfl (by kernel_rfl) (by kernel_rfl) (by kernel_rfl) (fun _ _ _ h => h) (by kernel_rfl) (by assumption) ?_ ?_; rotate_left; (focus (intro w hSw; (try dsimp only at hSw); go_simp; (first | done | (with_reducible rfl)))); (try simp only [Act.put, List.setIfInBounds_toArray, List.set_cons_zero, List.set_cons_succ])
    refine tk_yes 21 (v := ?_) rfl (by kernel_rfl) (by kernel_rfl) (by kernel_rfl) (fun _ _ _ h => h) (by kernel_rfl) (by assumption) ?_ ?_; rotate_left; (focus (intro w hSw; (try dsimp only at hSw); go_simp; (first | done | (with_reducible rfl)))); (try simp only [Act.put, List.setIfInBounds_toArray, List.set_cons_zero, List.set_cons_succ])
    refine tk_yes 22 (v := ?_) rfl (by kernel_rfl) (by kernel_rfl) (by kernel_rfl) (fun _ _ _ h => h) (by kernel_rfl) (by assumption) ?_ ?_; rotate_left; (focus (intro w hSw; (try dsimp only at hSw); go_simp; (first | done | (with_reducible rfl)))); (try simp only [Act.put, List.setIfInBounds_toArray, List.set_cons_zero, List.set_cons_succ])
    refine tk_it 23 (.slice (fromA Ap cp k1) (N.length - k1) (cp - k1)) rfl (by kernel_rfl) (by kernel_rfl) (by kernel_rfl) (fun _ _ _ h => h) (by kernel_rfl) (by assumption) (fun w => exec_from (k := k1) rfl rfl rfl HK1.out) ?_; (try simp only [Act.put, List.setIfInBounds_toArray, List.set_cons_zero, List.set_cons_succ])
    refine tk_yes 26 (v := ?_) rfl (by kernel_rfl) (by kernel_rfl) (by kernel_rfl) (fun _ _ _ h => h) (by kernel_rfl) (by assumption) ?_ ?_; rotate_left; (focus (intro w hSw; (try dsimp only at hSw); go_simp; (first | done | (with_reducible rfl)))); (try simp only [Act.put, List.setIfInBounds_toArray, List.set_cons_zero, List.set_cons_succ])
    refine dag_name ?_
    intro OPS Q' a0 hO hQ ha
    have L4_113 : ∀ (WW : World) (v36 v41 v47 v48 v53 v59 : Value), Below W6.heap.size W6 WW → Own2 W6.heap.size WW [(47, v47, (([] ++ ((ints N).take k)) ++ ((ints N).drop k1))), (59, v59, (([] ++ ((upsOf N up).take k)) ++ ((upsOf N up).drop k1)))] → wpAnyH Try.prog .any OPS Q' (fun W : World => W.cell? ⟨b8, 0, none⟩ = some (.slice Ao' n co') ∧ W.cell? ⟨b8, 1, none⟩ = some (.slice Ag' n cg') ∧ W.cell? ⟨b8, 2, none⟩ = some (.slice Ac' m' cc') ∧ W.cell? ⟨b8, 3, none⟩ = some (.int .i64 (fr : Int)) ∧ W.cell? ⟨w.heap.size, 4, none⟩ = some (.slice An N.length cn) ∧ W.cell? ⟨w.heap.size, 5, none⟩ = some (.slice Ap N.length cp)) 3 #[true, true, true, true, true, true, true, true, true, true, true, true, true, true, true, true, true, true, true, true, true, true, true, true, true, false, true, false, false] ((((((a0.put (some 36) v36).put (some 41) v41).put (some 47) v47).put (some 48) v48).put (some 53) v53).put (some 59) v59) WW := by
      intro WW v36 v41 v47 v48 v53 v59 hb ho
      subst hO
      subst ha
      subst hQ
      (try simp only [Act.put, List.setIfInBounds_toArray, List.set_cons_zero, List.set_cons_succ])
      have q := hS.out _ hb
      obtain ⟨kk, hkk⟩ : ∃ k, (PC.cut N p).length = k := ⟨_, rfl⟩
      obtain ⟨A47, c47, rfl, x47⟩ := own_vat2 (l' := ints (PC.cut N p)) (k := kk) (ho.own (d := 47) (v := v47) (l := (([] ++ (ints N).take k) ++ (ints N).drop k1)) (by simp)) hNn.out (by rw [ints_len]; exact hkk)
      obtain ⟨A59, c59, rfl, x59⟩ := own_vat2 (l' := upsOf (PC.cut N p) up) (k := kk) (ho.own (d := 59) (v := v59) (l := (([] ++ (upsOf N up).take k) ++ (upsOf N up).drop k1)) (by simp)) hU.out (by rw [upsOf_len]; exact hkk)
      have s7 := HR.out _ hb
      have e0 := (s7.cell 0).trans rfl
      have e1 := (s7.cell 1).trans rfl
      have e2 := (s7.cell 2).trans rfl
      have e3 := (s7.cell 3).trans rfl
      have e4 := (s7.cell 4).trans rfl
      have e5 := (s7.cell 5).trans rfl
      have f0 := s7.frozen 0
      have f1 := s7.frozen 1
      have f2 := s7.frozen 2
      have f3 := s7.frozen 3
      have f4 := s7.frozen 4
      have f5 := s7.frozen 5
      have hb' := Lib.hid hb
      have X1 := Lib.hid x47
      have X2 := Lib.hid x59
      clear x47 x59 ho s7
      refine tk_yes 25 (v := ?_) rfl (by kernel_rfl) (by kernel_rfl) (by kernel_rfl) (fun _ _ _ h => h) (by kernel_rfl) (by assumption) ?_ ?_; rotate_left; (focus (intro w hSw; (try dsimp only at hSw); go_simp; (first | done | (with_reducible rfl)))); (try simp only [Act.put, List.setIfInBounds_toArray, List.set_cons_zero, List.set_cons_succ])
      refine tk_call 27 rfl (by kernel_rfl) (by kernel_rfl) (fun KW hKW => ?_); go_simp; refine hKW.out _ _ ?_ (fun hHeld => ?_); (focus ((try dsimp only); with_reducible exact ⟨set6_cell q.1 HNE1.out _ _ _ _ _ _, set6_cell q.2.1 HNE1.out _ _ _ _ _ _, set6_cell q.2.2.1 HNE1.out _ _ _ _ _ _, set6_cell q.2.2.2.1 HNE1.out _ _ _ _ _ _, set6_cell q.2.2.2.2.1 HNE2.out _ _ _ _ _ _, set6_cell q.2.2.2.2.2 HNE2.out _ _ _ _ _ _⟩)); clear hKW KW; (try simp only [Act.put, List.setIfInBounds_toArray, List.set_cons_zero, List.set_cons_succ])
      refine tk_yes 28 (v := ?_) rfl (by kernel_rfl) (by kernel_rfl) (by kernel_rfl) (fun _ _ _ h => h) (by kernel_rfl) (by assumption) ?_ ?_; rotate_left; (focus (intro w hSw; (try dsimp only at hSw); go_simp; (first | done | (with_reducible rfl)))); (try simp only [Act.put, List.setIfInBounds_toArray, List.set_cons_zero, List.set_cons_succ])
      refine wpAnyH_done (by kernel_rfl) ?_ _
      go_wp2_with fail
      refine bodyPost_ret (v := .tuple #[.agg #[.slice Ao' n co', .slice Ag' n cg', .slice Ac' m' cc', .int .i64 (fr : Int), .slice A47 kk c47, .slice A59 kk c59], .bool true]) (by simp [results, Try.results38, go_sem, e0, e1, e2, e3, e4, e5]) rfl ?_
      clear e0 e1 e2 e3 e4 e5 f0 f1 f2 f3 f4 f5 q
      have hW : Below w.heap.size w ((((((WW.setCell ⟨w.heap.size + 1, 0, none⟩ (.slice Ao' n co')).setCell ⟨w.heap.size + 1, 1, none⟩ (.slice Ag' n cg')).setCell ⟨w.heap.size + 1, 2, none⟩ (.slice Ac' m' cc')).setCell ⟨w.heap.size + 1, 3, none⟩ (.int .i64 (fr : Int))).setCell ⟨w.heap.size + 1, 4, none⟩ (.slice A47 kk c47)).setCell ⟨w.heap.size + 1, 5, none⟩ (.slice A59 kk c59)) := set6_below (bel_trans HB6.out hb'.out) (by omega) _ _ _ _ _ _
      have hbl : ∀ k, k ≠ w.heap.size + 1 → ((((((WW.setCell ⟨w.heap.size + 1, 0, none⟩ (.slice Ao' n co')).setCell ⟨w.heap.size + 1, 1, none⟩ (.slice Ag' n cg')).setCell ⟨w.heap.size + 1, 2, none⟩ (.slice Ac' m' cc')).setCell ⟨w.heap.size + 1, 3, none⟩ (.int .i64 (fr : Int))).setCell ⟨w.heap.size + 1, 4, none⟩ (.slice A47 kk c47)).setCell ⟨w.heap.size + 1, 5, none⟩ (.slice A59 kk c59)).heap[k]? = WW.heap[k]? := fun k hk => set6_block _ _ _ _ _ _ _ _ _ hk
      have hsz : WW.heap.size ≤ ((((((WW.setCell ⟨w.heap.size + 1, 0, none⟩ (.slice Ao' n co')).setCell ⟨w.heap.size + 1, 1, none⟩ (.slice Ag' n cg')).setCell ⟨w.heap.size + 1, 2, none⟩ (.slice Ac' m' cc')).setCell ⟨w.heap.size + 1, 3, none⟩ (.int .i64 (fr : Int))).setCell ⟨w.heap.size + 1, 4, none⟩ (.slice A47 kk c47)).setCell ⟨w.heap.size + 1, 5, none⟩ (.slice A59 kk c59)).heap.size := by simp
      generalize ((((((WW.setCell ⟨w.heap.size + 1, 0, none⟩ (.slice Ao' n co')).setCell ⟨w.heap.size + 1, 1, none⟩ (.slice Ag' n cg')).setCell ⟨w.heap.size + 1, 2, none⟩ (.slice Ac' m' cc')).setCell ⟨w.heap.size + 1, 3, none⟩ (.int .i64 (fr : Int))).setCell ⟨w.heap.size + 1, 4, none⟩ (.slice A47 kk c47)).setCell ⟨w.heap.size + 1, 5, none⟩ (.slice A59 kk c59)) = Wf at hW hbl hsz ⊢
      unfold GDropF
      rw [HGP.out]
      have hold : ∀ {A : Option Addr} {k c : Nat} {vs : List Value}, VAt (fun b => P b ∧ b ≠ w.heap.size + 1 ∧ b ≠ b8) u3 A k c vs → VAt P Wf A k c vs := fun hv => (((hv.blocks HSZ3.out (fun b _ hb => HFAR.out b hb.2.2)).keep hb'.out).blocks hsz (fun b _ hb => hbl b hb.2.1)).mono (fun b _ hb => hb.1)
      have hnew : ∀ {A : Option Addr} {k c : Nat} {vs : List Value}, VAt (fun b => W6.heap.size ≤ b) WW A k c vs → VAt P Wf A k c vs := fun hv => (hv.blocks hsz (fun b _ hb => hbl b (by omega))).mono (fun b _ hb => HP.out b (by omega))
      subst hkk
      have x3 := hold q3.out
      rw [← HM'.out] at x3 ⊢
      exact ⟨_, rfl, ⟨Ao', co', Ag', cg', Ac', cc', A47, c47, A59, c59, rfl, ⟨Ao', co', Ag', cg', Ac', cc', rfl, hold q1.out, hold q2.out, x3⟩, hnew X1.out, hnew X2.out⟩, hW⟩
    have L3_113 : ∀ (WW : World) (v36 v41 v47 v48 v53 : Value), Below W6.heap.size W6 WW → Own2 W6.heap.size WW [(47, v47, (([] ++ ((ints N).take k)) ++ ((ints N).drop k1))), (53, v53, ([] ++ ((upsOf N up).take k)))] → wpAnyH Try.prog .any OPS Q' (fun W : World => W.cell? ⟨b8, 0, none⟩ = some (.slice Ao' n co') ∧ W.cell? ⟨b8, 1, none⟩ = some (.slice Ag' n cg') ∧ W.cell? ⟨b8, 2, none⟩ = some (.slice Ac' m' cc') ∧ W.cell? ⟨b8, 3, none⟩ = some (.int .i64 (fr : Int)) ∧ W.cell? ⟨w.heap.size, 4, none⟩ = some (.slice An N.length cn) ∧ W.cell? ⟨w.heap.size, 5, none⟩ = some (.slice Ap N.length cp)) 4 #[true, true, true, true, true, true, true, true, true, true, true, true, true, true, true, true, true, true, true, true, true, true, true, true, false, false, true, false, false] (((((a0.put (some 36) v36).put (some 41) v41).put (some 47) v47).put (some 48) v48).put (some 53) v53) WW := by
      intro WW v36 v41 v47 v48 v53 hb ho
      subst hO
      subst ha
      simp only [Act.put, List.setIfInBounds_toArray, List.set_cons_zero, List.set_cons_succ] at L4_113
      (try simp only [Act.put, List.setIfInBounds_toArray, List.set_cons_zero, List.set_cons_succ])
      refine wpAnyH_ready (rs := [24]) (by kernel_rfl) (by simp) (ready_cons (i := 24) rfl (by kernel_rfl) (fun KW hKW => ?_) (AllReadyH.nil))
      · refine app_operI2 (.tmp 53) (.tmp 58) rfl W6.heap.size v53 ([] ++ ((upsOf N up).take k)) rfl (ho.own (d := 53) (v := v53) (l := ([] ++ ((upsOf N up).take k))) (by simp)) (fromA Ap cp k1) (N.length - k1) (cp - k1) ((upsOf N up).drop k1) rfl (HN4.out _ hb) HL4.out hb.size ?_
        intro v9 W9 ho9 hb9 hoth hor hsz
        have hb2 := hb.trans hb9
        refine hKW.out _ _ ?_ (fun hHeld => ?_); (focus ((try dsimp only); exact hS.out _ hb2))
        (try simp only [Act.put, List.setIfInBounds_toArray, List.set_cons_zero, List.set_cons_succ])
        exact L4_113 _ v36 v41 v47 v48 v53 v9 hb2 ((Own2.app (d0 := 53) (v0 := v53) (l0 := ([] ++ ((upsOf N up).take k))) (d := 59) (L' := [(47, v47, (([] ++ ((ints N).take k)) ++ ((ints N).drop k1)))]) ho (by simp) ho9 hoth hor (by simp)).sub (by simp))
    have L2_113 : ∀ (WW : World) (v36 v41 v47 v48 : Value), Below W6.heap.size W6 WW → Own2 W6.heap.size WW [(47, v47, (([] ++ ((ints N).take k)) ++ ((ints N).drop k1))), (48, v48, [])] → wpAnyH Try.prog .any OPS Q' (fun W : World => W.cell? ⟨b8, 0, none⟩ = some (.slice Ao' n co') ∧ W.cell? ⟨b8, 1, none⟩ = some (.slice Ag' n cg') ∧ W.cell? ⟨b8, 2, none⟩ = some (.slice Ac' m' cc') ∧ W.cell? ⟨b8, 3, none⟩ = some (.int .i64 (fr : Int)) ∧ W.cell? ⟨w.heap.size, 4, none⟩ = some (.slice An N.length cn) ∧ W.cell? ⟨w.heap.size, 5, none⟩ = some (.slice Ap N.length cp)) 5 #[true, true, true, true, true, true, true, true, true, true, true, true, true, true, true, true, true, true, false, true, true, true, true, true, false, false, true, false, false] ((((a0.put (some 36) v36).put (some 41) v41).put (some 47) v47).put (some 48) v48) WW := by
      intro WW v36 v41 v47 v48 hb ho
      subst hO
      subst ha
      simp only [Act.put, List.setIfInBounds_toArray, List.set_cons_zero, List.set_cons_succ] at L3_113
      (try simp only [Act.put, List.setIfInBounds_toArray, List.set_cons_zero, List.set_cons_succ])
      refine wpAnyH_ready (rs := [18]) (by kernel_rfl) (by simp) (ready_cons (i := 18) rfl (by kernel_rfl) (fun KW hKW => ?_) (AllReadyH.nil))
      · refine app_operI2 (.tmp 48) (.tmp 52) rfl W6.heap.size v48 [] rfl (ho.own (d := 48) (v := v48) (l := []) (by simp)) (fromA Ap cp 0) k cp ((upsOf N up).take k) rfl (HN3.out _ hb) HL1.out hb.size ?_
        intro v9 W9 ho9 hb9 hoth hor hsz
        have hb2 := hb.trans hb9
        refine hKW.out _ _ ?_ (fun hHeld => ?_); (focus ((try dsimp only); exact hS.out _ hb2))
        (try simp only [Act.put, List.setIfInBounds_toArray, List.set_cons_zero, List.set_cons_succ])
        exact L3_113 _ v36 v41 v47 v48 v9 hb2 ((Own2.app (d0 := 48) (v0 := v48) (l0 := []) (d := 53) (L' := [(47, v47, (([] ++ ((ints N).take k)) ++ ((ints N).drop k1)))]) ho (by simp) ho9 hoth hor (by simp)).sub (by simp))
    have L2_1 : ∀ (WW : World) (v36 v41 v47 : Value), Below W6.heap.size W6 WW → Own2 W6.heap.size WW [(47, v47, (([] ++ ((ints N).take k)) ++ ((ints N).drop k1)))] → wpAnyH Try.prog .any OPS Q' (fun W : World => W.cell? ⟨b8, 0, none⟩ = some (.slice Ao' n co') ∧ W.cell? ⟨b8, 1, none⟩ = some (.slice Ag' n cg') ∧ W.cell? ⟨b8, 2, none⟩ = some (.slice Ac' m' cc') ∧ W.cell? ⟨b8, 3, none⟩ = some (.int .i64 (fr : Int)) ∧ W.cell? ⟨w.heap.size, 4, none⟩ = some (.slice An N.length cn) ∧ W.cell? ⟨w.heap.size, 5, none⟩ = some (.slice Ap N.length cp)) 6 #[true, true, true, true, true, true, true, true, true, true, true, true, true, false, true, true, true, true, false, true, true, true, true, true, false, false, true, false, false] (((a0.put (some 36) v36).put (some 41) v41).put (some 47) v47) WW := by
      intro WW v36 v41 v47 hb ho
      subst hO
      subst ha
      simp only [Act.put, List.setIfInBounds_toArray, List.set_cons_zero, List.set_cons_succ] at L2_113
      (try simp only [Act.put, List.setIfInBounds_toArray, List.set_cons_zero, List.set_cons_succ])
      refine wpAnyH_ready (rs := [13]) (by kernel_rfl) (by simp) (ready_cons (i := 13) rfl (by kernel_rfl) (fun KW hKW => ?_) (AllReadyH.nil))
      · go_simp; refine hKW.out _ _ ?_ (fun hHeld => ?_); (focus ((try dsimp only); exact hS.out _ (by repeat (first | exact Below.refl _ _ | assumption | refine bel_drew ?_ | refine bel_drewN ?_ _ | refine bel_alloc ?_ _ | refine bel_trans ?_ (by assumption)))))
        (try simp only [Act.put, List.setIfInBounds_toArray, List.set_cons_zero, List.set_cons_succ])
        exact L2_113 _ v36 v41 v47 (.slice (some ⟨WW.heap.size, 0, none⟩) 0 0) (by repeat (first | exact Below.refl _ _ | assumption | refine bel_drew ?_ | refine bel_drewN ?_ _ | refine bel_alloc ?_ _ | refine bel_trans ?_ (by assumption))) ((Own2.lit (d := 48) ho hb.size (by simp) (own_emptyI WW)).sub (by simp))
    have L1_113 : ∀ (WW : World) (v36 v41 v48 : Value), Below W6.heap.size W6 WW → Own2 W6.heap.size WW [(41, v41, ([] ++ ((ints N).take k))), (48, v48, [])] → wpAnyH Try.prog .any OPS Q' (fun W : World => W.cell? ⟨b8, 0, none⟩ = some (.slice Ao' n co') ∧ W.cell? ⟨b8, 1, none⟩ = some (.slice Ag' n cg') ∧ W.cell? ⟨b8, 2, none⟩ = some (.slice Ac' m' cc') ∧ W.cell? ⟨b8, 3, none⟩ = some (.int .i64 (fr : Int)) ∧ W.cell? ⟨w.heap.size, 4, none⟩ = some (.slice An N.length cn) ∧ W.cell? ⟨w.heap.size, 5, none⟩ = some (.slice Ap N.length cp)) 6 #[true, true, true, true, true, true, true, true, true, true, true, true, false, true, true, true, true, true, false, true, true, true, true, true, false, false, true, false, false] (((a0.put (some 36) v36).put (some 41) v41).put (some 48) v48) WW := by
      intro WW v36 v41 v48 hb ho
      subst hO
      subst ha
      simp only [Act.put, List.setIfInBounds_toArray, List.set_cons_zero, List.set_cons_succ] at L2_113
      (try simp only [Act.put, List.setIfInBounds_toArray, List.set_cons_zero, List.set_cons_succ])
      refine wpAnyH_ready (rs := [12]) (by kernel_rfl) (by simp) (ready_cons (i := 12) rfl (by kernel_rfl) (fun KW hKW => ?_) (AllReadyH.nil))
      · refine app_operI2 (.tmp 41) (.tmp 46) rfl W6.heap.size v41 ([] ++ ((ints N).take k)) rfl (ho.own (d := 41) (v := v41) (l := ([] ++ ((ints N).take k))) (by simp)) (fromA An cn k1) (N.length - k1) (cn - k1) ((ints N).drop k1) rfl (HN2.out _ hb) HL2.out hb.size ?_
        intro v9 W9 ho9 hb9 hoth hor hsz
        have hb2 := hb.trans hb9
        refine hKW.out _ _ ?_ (fun hHeld => ?_); (focus ((try dsimp only); exact hS.out _ hb2))
        (try simp only [Act.put, List.setIfInBounds_toArray, List.set_cons_zero, List.set_cons_succ])
        exact L2_113 _ v36 v41 v9 v48 hb2 ((Own2.app (d0 := 41) (v0 := v41) (l0 := ([] ++ ((ints N).take k))) (d := 47) (L' := [(48, v48, [])]) ho (by simp) ho9 hoth hor (by simp)).sub (by simp))
    have L1_1 : ∀ (WW : World) (v36 v41 : Value), Below W6.heap.size W6 WW → Own2 W6.heap.size WW [(41, v41, ([] ++ ((ints N).take k)))] → wpAnyH Try.prog .any OPS Q' (fun W : World => W.cell? ⟨b8, 0, none⟩ = some (.slice Ao' n co') ∧ W.cell? ⟨b8, 1, none⟩ = some (.slice Ag' n cg') ∧ W.cell? ⟨b8, 2, none⟩ = some (.slice Ac' m' cc') ∧ W.cell? ⟨b8, 3, none⟩ = some (.int .i64 (fr : Int)) ∧ W.cell? ⟨w.heap.size, 4, none⟩ = some (.slice An N.length cn) ∧ W.cell? ⟨w.heap.size, 5, none⟩ = some (.slice Ap N.length cp)) 7 #[true, true, true, true, true, true, true, true, true, true, true, true, false, false, true, true, true, true, false, true, true, true, true, true, false, false, true, false, false] ((a0.put (some 36) v36).put (some 41) v41) WW := by
      intro WW v36 v41 hb ho
      subst hO
      subst ha
      simp only [Act.put, List.setIfInBounds_toArray, List.set_cons_zero, List.set_cons_succ] at L2_1
      simp only [Act.put, List.setIfInBounds_toArray, List.set_cons_zero, List.set_cons_succ] at L1_113
      (try simp only [Act.put, List.setIfInBounds_toArray, List.set_cons_zero, List.set_cons_succ])
      refine wpAnyH_ready (rs := [12, 13]) (by kernel_rfl) (by simp) (ready_cons (i := 12) rfl (by kernel_rfl) (fun KW hKW => ?_) (ready_cons (i := 13) rfl (by kernel_rfl) (fun KW hKW => ?_) (AllReadyH.nil)))
      · refine app_operI2 (.tmp 41) (.tmp 46) rfl W6.heap.size v41 ([] ++ ((ints N).take k)) rfl (ho.own (d := 41) (v := v41) (l := ([] ++ ((ints N).take k))) (by simp)) (fromA An cn k1) (N.length - k1) (cn - k1) ((ints N).drop k1) rfl (HN2.out _ hb) HL2.out hb.size ?_
        intro v9 W9 ho9 hb9 hoth hor hsz
        have hb2 := hb.trans hb9
        refine hKW.out _ _ ?_ (fun hHeld => ?_); (focus ((try dsimp only); exact hS.out _ hb2))
        (try simp only [Act.put, List.setIfInBounds_toArray, List.set_cons_zero, List.set_cons_succ])
        exact L2_1 _ v36 v41 v9 hb2 ((Own2.app (d0 := 41) (v0 := v41) (l0 := ([] ++ ((ints N).take k))) (d := 47) (L' := []) ho (by simp) ho9 hoth hor (by simp)).sub (by simp))
      · go_simp; refine hKW.out _ _ ?_ (fun hHeld => ?_); (focus ((try dsimp only); exact hS.out _ (by repeat (first | exact Below.refl _ _ | assumption | refine bel_drew ?_ | refine bel_drewN ?_ _ | refine bel_alloc ?_ _ | refine bel_trans ?_ (by assumption)))))
        (try simp only [Act.put, List.setIfInBounds_toArray, List.set_cons_zero, List.set_cons_succ])
        exact L1_113 _ v36 v41 (.slice (some ⟨WW.heap.size, 0, none⟩) 0 0) (by repeat (first | exact Below.refl _ _ | assumption | refine bel_drew ?_ | refine bel_drewN ?_ _ | refine bel_alloc ?_ _ | refine bel_trans ?_ (by assumption))) ((Own2.lit (d := 48) ho hb.size (by simp) (own_emptyI WW)).sub (by simp))
    have L0_113 : ∀ (WW : World) (v36 v48 : Value), Below W6.heap.size W6 WW → Own2 W6.heap.size WW [(36, v36, []), (48, v48, [])] → wpAnyH Try.prog .any OPS Q' (fun W : World => W.cell? ⟨b8, 0, none⟩ = some (.slice Ao' n co') ∧ W.cell? ⟨b8, 1, none⟩ = some (.slice Ag' n cg') ∧ W.cell? ⟨b8, 2, none⟩ = some (.slice Ac' m' cc') ∧ W.cell? ⟨b8, 3, none⟩ = some (.int .i64 (fr : Int)) ∧ W.cell? ⟨w.heap.size, 4, none⟩ = some (.slice An N.length cn) ∧ W.cell? ⟨w.heap.size, 5, none⟩ = some (.slice Ap N.length cp)) 7 #[true, true, true, true, true, true, false, true, true, true, true, true, false, true, true, true, true, true, false, true, true, true, true, true, false, false, true, false, false] ((a0.put (some 36) v36).put (some 48) v48) WW := by
      intro WW v36 v48 hb ho
      subst hO
      subst ha
      simp only [Act.put, List.setIfInBounds_toArray, List.set_cons_zero, List.set_cons_succ] at L1_113
      (try simp only [Act.put, List.setIfInBounds_toArray, List.set_cons_zero, List.set_cons_succ])
      refine wpAnyH_ready (rs := [6]) (by kernel_rfl) (by simp) (ready_cons (i := 6) rfl (by kernel_rfl) (fun KW hKW => ?_) (AllReadyH.nil))
      · refine app_operI2 (.tmp 36) (.tmp 40) rfl W6.heap.size v36 [] rfl (ho.own (d := 36) (v := v36) (l := []) (by simp)) (fromA An cn 0) k cn ((ints N).take k) rfl (HN1.out _ hb) HL1.out hb.size ?_
        intro v9 W9 ho9 hb9 hoth hor hsz
        have hb2 := hb.trans hb9
        refine hKW.out _ _ ?_ (fun hHeld => ?_); (focus ((try dsimp only); exact hS.out _ hb2))
        (try simp only [Act.put, List.setIfInBounds_toArray, List.set_cons_zero, List.set_cons_succ])
        exact L1_113 _ v36 v9 v48 hb2 ((Own2.app (d0 := 36) (v0 := v36) (l0 := []) (d := 41) (L' := [(48, v48, [])]) ho (by simp) ho9 hoth hor (by simp)).sub (by simp))
    have L0_1 : ∀ (WW : World) (v36 : Value), Below W6.heap.size W6 WW → Own2 W6.heap.size WW [(36, v36, [])] → wpAnyH Try.prog .any OPS Q' (fun W : World => W.cell? ⟨b8, 0, none⟩ = some (.slice Ao' n co') ∧ W.cell? ⟨b8, 1, none⟩ = some (.slice Ag' n cg') ∧ W.cell? ⟨b8, 2, none⟩ = some (.slice Ac' m' cc') ∧ W.cell? ⟨b8, 3, none⟩ = some (.int .i64 (fr : Int)) ∧ W.cell? ⟨w.heap.size, 4, none⟩ = some (.slice An N.length cn) ∧ W.cell? ⟨w.heap.size, 5, none⟩ = some (.slice Ap N.length cp)) 8 #[true, true, true, true, true, true, false, true, true, true, true, true, false, false, true, true, true, true, false, true, true, true, true, true, false, false, true, false, false] (a0.put (some 36) v36) WW := by
      intro WW v36 hb ho
      subst hO
      subst ha
      simp only [Act.put, List.setIfInBounds_toArray, List.set_cons_zero, List.set_cons_succ] at L1_1
      simp only [Act.put, List.setIfInBounds_toArray, List.set_cons_zero, List.set_cons_succ] at L0_113
      (try simp only [Act.put, List.setIfInBounds_toArray, List.set_cons_zero, List.set_cons_succ])
      refine wpAnyH_ready (rs := [6, 13]) (by kernel_rfl) (by simp) (ready_cons (i := 6) rfl (by kernel_rfl) (fun KW hKW => ?_) (ready_cons (i := 13) rfl (by kernel_rfl) (fun KW hKW => ?_) (AllReadyH.nil)))
      · refine app_operI2 (.tmp 36) (.tmp 40) rfl W6.heap.size v36 [] rfl (ho.own (d := 36) (v := v36) (l := []) (by simp)) (fromA An cn 0) k cn ((ints N).take k) rfl (HN1.out _ hb) HL1.out hb.size ?_
        intro v9 W9 ho9 hb9 hoth hor hsz
        have hb2 := hb.trans hb9
        refine hKW.out _ _ ?_ (fun hHeld => ?_); (focus ((try dsimp only); exact hS.out _ hb2))
        (try simp only [Act.put, List.setIfInBounds_toArray, List.set_cons_zero, List.set_cons_succ])
        exact L1_1 _ v36 v9 hb2 ((Own2.app (d0 := 36) (v0 := v36) (l0 := []) (d := 41) (L' := []) ho (by simp) ho9 hoth hor (by simp)).sub (by simp))
      · go_simp; refine hKW.out _ _ ?_ (fun hHeld => ?_); (focus ((try dsimp only); exact hS.out _ (by repeat (first | exact Below.refl _ _ | assumption | refine bel_drew ?_ | refine bel_drewN ?_ _ | refine bel_alloc ?_ _ | refine bel_trans ?_ (by assumption)))))
        (try simp only [Act.put, List.setIfInBounds_toArray, List.set_cons_zero, List.set_cons_succ])
        exact L0_113 _ v36 (.slice (some ⟨WW.heap.size, 0, none⟩) 0 0) (by repeat (first | exact Below.refl _ _ | assumption | refine bel_drew ?_ | refine bel_drewN ?_ _ | refine bel_alloc ?_ _ | refine bel_trans ?_ (by assumption))) ((Own2.lit (d := 48) ho hb.size (by simp) (own_emptyI WW)).sub (by simp))
    have L0_13 : ∀ (WW : World) (v48 : Value), Below W6.heap.size W6 WW → Own2 W6.heap.size WW [(48, v48, [])] → wpAnyH Try.prog .any OPS Q' (fun W : World => W.cell? ⟨b8, 0, none⟩ = some (.slice Ao' n co') ∧ W.cell? ⟨b8, 1, none⟩ = some (.slice Ag' n cg') ∧ W.cell? ⟨b8, 2, none⟩ = some (.slice Ac' m' cc') ∧ W.cell? ⟨b8, 3, none⟩ = some (.int .i64 (fr : Int)) ∧ W.cell? ⟨w.heap.size, 4, none⟩ = some (.slice An N.length cn) ∧ W.cell? ⟨w.heap.size, 5, none⟩ = some (.slice Ap N.length cp)) 8 #[true, false, true, true, true, true, false, true, true, true, true, true, false, true, true, true, true, true, false, true, true, true, true, true, false, false, true, false, false] (a0.put (some 48) v48) WW := by
      intro WW v48 hb ho
      subst hO
      subst ha
      simp only [Act.put, List.setIfInBounds_toArray, List.set_cons_zero, List.set_cons_succ] at L0_113
      (try simp only [Act.put, List.setIfInBounds_toArray, List.set_cons_zero, List.set_cons_succ])
      refine wpAnyH_ready (rs := [1]) (by kernel_rfl) (by simp) (ready_cons (i := 1) rfl (by kernel_rfl) (fun KW hKW => ?_) (AllReadyH.nil))
      · go_simp; refine hKW.out _ _ ?_ (fun hHeld => ?_); (focus ((try dsimp only); exact hS.out _ (by repeat (first | exact Below.refl _ _ | assumption | refine bel_drew ?_ | refine bel_drewN ?_ _ | refine bel_alloc ?_ _ | refine bel_trans ?_ (by assumption)))))
        (try simp only [Act.put, List.setIfInBounds_toArray, List.set_cons_zero, List.set_cons_succ])
        exact L0_113 _ (.slice (some ⟨WW.heap.size, 0, none⟩) 0 0) v48 (by repeat (first | exact Below.refl _ _ | assumption | refine bel_drew ?_ | refine bel_drewN ?_ _ | refine bel_alloc ?_ _ | refine bel_trans ?_ (by assumption))) ((Own2.lit (d := 36) ho hb.size (by simp) (own_emptyI WW)).sub (by simp))
    have L0_ : ∀ (WW : World), Below W6.heap.size W6 WW → Own2 W6.heap.size WW [] → wpAnyH Try.prog .any OPS Q' (fun W : World => W.cell? ⟨b8, 0, none⟩ = some (.slice Ao' n co') ∧ W.cell? ⟨b8, 1, none⟩ = some (.slice Ag' n cg') ∧ W.cell? ⟨b8, 2, none⟩ = some (.slice Ac' m' cc') ∧ W.cell? ⟨b8, 3, none⟩ = some (.int .i64 (fr : Int)) ∧ W.cell? ⟨w.heap.size, 4, none⟩ = some (.slice An N.length cn) ∧ W.cell? ⟨w.heap.size, 5, none⟩ = some (.slice Ap N.length cp)) 9 #[true, false, true, true, true, true, false, true, true, true, true, true, false, false, true, true, true, true, false, true, true, true, true, true, false, false, true, false, false] a0 WW := by
      intro WW hb ho
      subst hO
      subst ha
      simp only [Act.put, List.setIfInBounds_toArray, List.set_cons_zero, List.set_cons_succ] at L0_1
      simp only [Act.put, List.setIfInBounds_toArray, List.set_cons_zero, List.set_cons_succ] at L0_13
      (try simp only [Act.put, List.setIfInBounds_toArray, List.set_cons_zero, List.set_cons_succ])
      refine wpAnyH_ready (rs := [1, 13]) (by kernel_rfl) (by simp) (ready_cons (i := 1) rfl (by kernel_rfl) (fun KW hKW => ?_) (ready_cons (i := 13) rfl (by kernel_rfl) (fun KW hKW => ?_) (AllReadyH.nil)))
      · go_simp; refine hKW.out _ _ ?_ (fun hHeld => ?_); (focus ((try dsimp only); exact hS.out _ (by repeat (first | exact Below.refl _ _ | assumption | refine bel_drew ?_ | refine bel_drewN ?_ _ | refine bel_alloc ?_ _ | refine bel_trans ?_ (by assumption)))))
        (try simp only [Act.put, List.setIfInBounds_toArray, List.set_cons_zero, List.set_cons_succ])
        exact L0_1 _ (.slice (some ⟨WW.heap.size, 0, none⟩) 0 0) (by repeat (first | exact Below.refl _ _ | assumption | refine bel_drew ?_ | refine bel_drewN ?_ _ | refine bel_alloc ?_ _ | refine bel_trans ?_ (by assumption))) ((Own2.lit (d := 36) ho hb.size (by simp) (own_emptyI WW)).sub (by simp))
      · go_simp; refine hKW.out _ _ ?_ (fun hHeld => ?_); (focus ((try dsimp only); exact hS.out _ (by repeat (first | exact Below.refl _ _ | assumption | refine bel_drew ?_ | refine bel_drewN ?_ _ | refine bel_alloc ?_ _ | refine bel_trans ?_ (by assumption)))))
        (try simp only [Act.put, List.setIfInBounds_toArray, List.set_cons_zero, List.set_cons_succ])
        exact L0_13 _ (.slice (some ⟨WW.heap.size, 0, none⟩) 0 0) (by repeat (first | exact Below.refl _ _ | assumption | refine bel_drew ?_ | refine bel_drewN ?_ _ | refine bel_alloc ?_ _ | refine bel_trans ?_ (by assumption))) ((Own2.lit (d := 48) ho hb.size (by simp) (own_emptyI WW)).sub (by simp))
    exact L0_ _ (by repeat (first | exact Below.refl _ _ | assumption | refine bel_drew ?_ | refine bel_drewN ?_ _ | refine bel_alloc ?_ _ | refine bel_trans ?_ (by assumption))) (Own2.nil _ _)
  subst hO
  subst ha
  subst hQ
  simp only [Act.put, List.setIfInBounds_toArray, List.set_cons_zero, List.set_cons_succ] at LF
  refine wpAnyH_ready (rs := [9, 13]) (by kernel_rfl) (by simp) (ready_cons (i := 9) rfl (by kernel_rfl) (fun KW hKW => ?_) (ready_cons (i := 13) rfl (by kernel_rfl) (fun KW hKW => ?_) AllReadyH.nil))
  · go_simp; go_at_call 111; refine (KC.out (fun b => P b ∧ b ≠ w.heap.size + 1) _ (by repeat (first | exact Below.refl _ _ | assumption | refine bel_drew ?_ | refine bel_drewN ?_ _ | refine bel_alloc ?_ _ | refine bel_trans ?_ (by assumption))) (fun b hb h => ⟨h, by omega⟩) (fun b hb => ⟨HP.out b (by have := b2.size; simp only [World.size_drew] at hb; omega), by simp only [World.size_drew] at hb; omega⟩)).mono ?_; rintro e u3 ⟨V', rfl, hR, hbu⟩; have hbb := bel_to (W0 := u2) (by repeat (first | exact Below.refl _ _ | assumption | refine bel_drew ?_ | refine bel_drewN ?_ _ | refine bel_alloc ?_ _ | refine bel_trans ?_ (by assumption))) hbu; obtain ⟨Ao', co', Ag', cg', Ac', cc', rfl, q1, q2, q3⟩ := hR; obtain ⟨m', hm'⟩ : ∃ m', (cl ++ [p]).length = m' := ⟨_, rfl⟩; rw [hm'] at q3 ⊢; have HM' := Lib.hid hm'; clear hm'; have q := hS.out _ hbb; clear hbu; refine hKW.out _ _ ?_ (fun hHeld => ?_); (focus ((try dsimp only); first | exact q | exact hS.out _ (by repeat (first | exact Below.refl _ _ | assumption | refine bel_drew ?_ | refine bel_drewN ?_ _ | refine bel_alloc ?_ _ | refine bel_trans ?_ (by assumption))))); clear hKW KW; (try simp only [Act.put, List.setIfInBounds_toArray, List.set_cons_zero, List.set_cons_succ])
    refine tk_yes 10 (v := ?_) rfl (by kernel_rfl) (by kernel_rfl) (by kernel_rfl) (fun _ _ _ h => h) (by kernel_rfl) (by assumption) ?_ ?_; rotate_left; (focus (intro w hSw; (try dsimp only at hSw); go_simp; (first | done | (with_reducible rfl)))); (try simp only [Act.put, List.setIfInBounds_toArray, List.set_cons_zero, List.set_cons_succ])
    refine tk_yes 11 (v := ?_) rfl (by kernel_rfl) (by kernel_rfl) (by kernel_rfl) (fun _ _ _ h => h) (by kernel_rfl) (by assumption) ?_ ?_; rotate_left; (focus (intro w hSw; (try dsimp only at hSw); go_simp; (first | done | (with_reducible rfl)))); (try simp only [Act.put, List.setIfInBounds_toArray, List.set_cons_zero, List.set_cons_succ])
    refine tk_yes 12 (v := ?_) rfl (by kernel_rfl) (by kernel_rfl) (by kernel_rfl) (fun _ _ _ h => h) (by kernel_rfl) (by assumption) ?_ ?_; rotate_left; (focus (intro w hSw; (try dsimp only at hSw); go_simp; (first | done | (with_reducible rfl)))); (try simp only [Act.put, List.setIfInBounds_toArray, List.set_cons_zero, List.set_cons_succ])
    refine tk_call 13 rfl (by kernel_rfl) (by kernel_rfl) (fun KW hKW => ?_); go_simp; refine hKW.out _ _ ?_ (fun hHeld => ?_); (focus ((try dsimp only); first | exact q | exact hS.out _ (by repeat (first | exact Below.refl _ _ | assumption | refine bel_drew ?_ | refine bel_drewN ?_ _ | refine bel_alloc ?_ _ | refine bel_trans ?_ (by assumption))))); clear hKW KW; (try simp only [Act.put, List.setIfInBounds_toArray, List.set_cons_zero, List.set_cons_succ])
    have zz : w.heap.size + 2 ≤ u3.heap.size := Nat.le_trans z2 hbb.size
    exact LF _ u3.heap.size Ao' Ag' Ac' co' cg' m' cc' (bel_alloc hbb _) (RowAt.new u3 56 [.slice none 0 0, .slice none 0 0, .slice none 0 0, .int .i64 0]) zz hbb.size HM'.out ((q1.mono (fun b hb h => ⟨h.1, h.2, Nat.ne_of_lt hb⟩)).keep (bel_alloc (Below.refl _ _) _)) ((q2.mono (fun b hb h => ⟨h.1, h.2, Nat.ne_of_lt hb⟩)).keep (bel_alloc (Below.refl _ _) _)) ((q3.mono (fun b hb h => ⟨h.1, h.2, Nat.ne_of_lt hb⟩)).keep (bel_alloc (Below.refl _ _) _))
  · go_simp; refine hKW.out _ _ ?_ (fun hHeld => ?_); (focus ((try dsimp only); first | exact q | exact hS.out _ (by repeat (first | exact Below.refl _ _ | assumption | refine bel_drew ?_ | refine bel_drewN ?_ _ | refine bel_alloc ?_ _ | refine bel_trans ?_ (by assumption))))); clear hKW KW; (try simp only [Act.put, List.setIfInBounds_toArray, List.set_cons_zero, List.set_cons_succ])
    refine tk_call 9 rfl (by kernel_rfl) (by kernel_rfl) (fun KW hKW => ?_); go_simp; go_at_call 111; refine (KC.out (fun b => P b ∧ b ≠ w.heap.size + 1 ∧ b ≠ u2.heap.size) _ (by repeat (first | exact Below.refl _ _ | assumption | refine bel_drew ?_ | refine bel_drewN ?_ _ | refine bel_alloc ?_ _ | refine bel_trans ?_ (by assumption))) (fun b hb h => ⟨h, by omega, by omega⟩) (fun b hb => ⟨HP.out b (by have := b2.size; simp at hb; omega), by simp at hb; omega, by simp at hb; omega⟩)).mono ?_; rintro e u3 ⟨V', rfl, hR, hbu⟩; have hbb := bel_to (W0 := u2) (by repeat (first | exact Below.refl _ _ | assumption | refine bel_drew ?_ | refine bel_drewN ?_ _ | refine bel_alloc ?_ _ | refine bel_trans ?_ (by assumption))) hbu; obtain ⟨Ao', co', Ag', cg', Ac', cc', rfl, q1, q2, q3⟩ := hR; obtain ⟨m', hm'⟩ : ∃ m', (cl ++ [p]).length = m' := ⟨_, rfl⟩; rw [hm'] at q3 ⊢; have HM' := Lib.hid hm'; clear hm'; have q := hS.out _ hbb; have t3 : RowAt u3 u2.heap.size 56 [.slice none 0 0, .slice none 0 0, .slice none 0 0, .int .i64 0] := (RowAt.new u2.drew 56 [.slice none 0 0, .slice none 0 0, .slice none 0 0, .int .i64 0]).keep hbu; clear hbu; refine hKW.out _ _ ?_ (fun hHeld => ?_); (focus ((try dsimp only); first | exact q | exact hS.out _ (by repeat (first | exact Below.refl _ _ | assumption | refine bel_drew ?_ | refine bel_drewN ?_ _ | refine bel_alloc ?_ _ | refine bel_trans ?_ (by assumption))))); clear hKW KW; (try simp only [Act.put, List.setIfInBounds_toArray, List.set_cons_zero, List.set_cons_succ])
    refine tk_yes 10 (v := ?_) rfl (by kernel_rfl) (by kernel_rfl) (by kernel_rfl) (fun _ _ _ h => h) (by kernel_rfl) (by assumption) ?_ ?_; rotate_left; (focus (intro w hSw; (try dsimp only at hSw); go_simp; (first | done | (with_reducible rfl)))); (try simp only [Act.put, List.setIfInBounds_toArray, List.set_cons_zero, List.set_cons_succ])
    refine tk_yes 11 (v := ?_) rfl (by kernel_rfl) (by kernel_rfl) (by kernel_rfl) (fun _ _ _ h => h) (by kernel_rfl) (by assumption) ?_ ?_; rotate_left; (focus (intro w hSw; (try dsimp only at hSw); go_simp; (first | done | (with_reducible rfl)))); (try simp only [Act.put, List.setIfInBounds_toArray, List.set_cons_zero, List.set_cons_succ])
    refine tk_yes 12 (v := ?_) rfl (by kernel_rfl) (by kernel_rfl) (by kernel_rfl) (fun _ _ _ h => h) (by kernel_rfl) (by assumption) ?_ ?_; rotate_left; (focus (intro w hSw; (try dsimp only at hSw); go_simp; (first | done | (with_reducible rfl)))); (try simp only [Act.put, List.setIfInBounds_toArray, List.set_cons_zero, List.set_cons_succ])
    exact LF u3 u2.heap.size Ao' Ag' Ac' co' cg' m' cc' hbb t3 z2 (Nat.le_refl _) HM'.out q1 q2 q3
end Go.Proofs.Ytdhcmnbajkpjiaa
/-
  The reference's forest in memory: Next.
-/
namespace Go.Proofs.Ytdhcmnbajkpjiaa
open Go.RowKit
open Go.Maps
set_option linter.unusedVariables false
set_option linter.unusedSimpArgs false
attribute [local go_sem] drewN_alloc drewN_setCell

variable {P : Nat → Prop} {w w' : World} {V : Value} {n : Nat} {g : List Int} {O cl : List Nat} {fr : Nat} {N : List Nat} {up : List Int}
theorem next_some {r : List Nat} {x : Int} {k : Nat} (hk : k + 1 < r.length) (h : ((r[k] : Nat) : Int) = x) (hf : ∀ j (hj : j < r.length), j < k → ((r[j] : Nat) : Int) ≠ x) : PC.headD (r.drop (r.idxOf x.toNat + 1)) = ((r[k + 1] : Nat) : Int) := by
  subst h
  rw [Int.toNat_natCast, PC.place_of (by omega) rfl (fun j hj hlt e => hf j hj hlt (by omega)), List.drop_eq_getElem_cons hk, PC.headD_cons]
theorem next_none {r : List Nat} {x : Int} (h0 : 0 ≤ x) (hf : ∀ j (hj : j + 1 < r.length), ((r[j] : Nat) : Int) ≠ x) : PC.headD (r.drop (r.idxOf x.toNat + 1)) = -1 := by
  rw [List.drop_eq_nil_of_le, PC.headD_nil]
  rcases Nat.lt_or_ge (r.idxOf x.toNat + 1) r.length with h | h
  · exact absurd (by rw [List.getElem_idxOf (by omega)]; omega) (hf _ h)
  · exact h
def NextRel (r : List Nat) (x : Int) (i : Value) : Prop := ∃ k : Nat, (k = 0 ∨ k + 1 ≤ r.length) ∧ i = .int .i64 k ∧ ∀ j (hj : j < r.length), j < k → ((r[j] : Nat) : Int) ≠ x
set_option maxRecDepth 100000 in
set_option maxHeartbeats 4000000 in
theorem ref37_Next (x : Int) (hN : N.length ≤ 100000) (h : RefF P w V n g O cl fr N up) : Calls Try.prog 121 #[V, .int .i64 x] w fun e w' => e = .returned (.int .i64 (nextN N up x)) ∧ Below w.heap.size w w' := by
  have hh := h
  obtain ⟨Ao, co, Ag, cg, Ac, cc, An, cn, Ap, cp, rfl, h1, h2, h3⟩ := h
  obtain ⟨m, hml⟩ : ∃ m, cl.length = m := ⟨_, rfl⟩
  rw [hml] at hh ⊢
  obtain ⟨w0, hw0⟩ : ∃ w0, w.alloc (.cells #[.slice Ao n co, .slice Ag n cg, .slice Ac m cc, .int .i64 (fr : Int), .slice An N.length cn, .slice Ap N.length cp] 58) = w0 := ⟨_, rfl⟩
  have r0 : RowAt w0 w.heap.size 58 [.slice Ao n co, .slice Ag n cg, .slice Ac m cc, .int .i64 (fr : Int), .slice An N.length cn, .slice Ap N.length cp] := by rw [← hw0]; exact RowAt.new w 58 _
  have b0 : Below w.heap.size w w0 := by rw [← hw0]; exact (by repeat (first | exact Below.refl _ _ | assumption | refine bel_drew ?_ | refine bel_drewN ?_ _ | refine bel_alloc ?_ _ | refine bel_set ?_ (by first | (dsimp only; omega) | (simp; done) | (simp; omega)) _ | refine bel_trans ?_ (by assumption)))
  have c4 : w0.cell? ⟨w.heap.size, 4, none⟩ = some (.slice An N.length cn) := by rw [r0.cell]; rfl
  have c5 : w0.cell? ⟨w.heap.size, 5, none⟩ = some (.slice Ap N.length cp) := by rw [r0.cell]; rfl
  have K := ref37_At x (hh.keep b0)
  have c0 : w0.cell? ⟨w.heap.size, 0, none⟩ = some (.slice Ao n co) := by rw [r0.cell]; rfl
  have c1 : w0.cell? ⟨w.heap.size, 1, none⟩ = some (.slice Ag n cg) := by rw [r0.cell]; rfl
  have c2 : w0.cell? ⟨w.heap.size, 2, none⟩ = some (.slice Ac m cc) := by rw [r0.cell]; rfl
  have c3 : w0.cell? ⟨w.heap.size, 3, none⟩ = some (.int .i64 (fr : Int)) := by rw [r0.cell]; rfl
  have B0 := Lib.hid b0
  have HW0 := Lib.hid hw0
  have HH := Lib.hid hh
  have hlt0 : w.heap.size < w0.heap.size := by rw [← hw0]; simp
  by_cases hx : 0 ≤ x ∧ x.toNat ∈ N
  · have hk := List.idxOf_lt_length_iff.2 hx.2
    have e1 : PC.place N x = (N.idxOf x.toNat : Nat) := by unfold PC.place; rw [if_pos hx]
    have e2 : nextN N up x = PC.headD ((childN N up (up.getD x.toNat 0)).drop ((childN N up (up.getD x.toNat 0)).idxOf x.toNat + 1)) := by unfold nextN; rw [if_pos hx]
    have e3 : N[N.idxOf x.toNat] = x.toNat := List.getElem_idxOf hk
    obtain ⟨b, off, rfl, hb, x0⟩ := (h3.keep b0).at (ups_cells (up := up) hk)
    rw [e3] at x0
    rw [e1] at K
    rw [e2]
    obtain ⟨k, hk'⟩ : ∃ k, N.idxOf x.toNat = k := ⟨_, rfl⟩
    obtain ⟨u, hu⟩ : ∃ u, up.getD x.toNat 0 = u := ⟨_, rfl⟩
    rw [hk'] at K x0 hk
    rw [hu] at x0 ⊢
    have g0 : (0 : Int) ≤ (k : Int) := by omega
    have g1 : (k : Int) < (N.length : Int) := by omega
    have g2 : decide ((k : Int) < (0 : Int)) = false := decide_eq_false (by omega)
    have g3 : ¬ (k : Int) < (0 : Int) := by omega
    have HX := Lib.hid hx
    replace K := Lib.hid K
    obtain ⟨r, hr⟩ : ∃ r, childN N up u = r := ⟨_, rfl⟩
    rw [hr]
    obtain ⟨z, hz⟩ : ∃ z, PC.headD (r.drop (r.idxOf x.toNat + 1)) = z := ⟨_, rfl⟩
    rw [hz]
    have HZ := Lib.hid hz
    have HR := Lib.hid hr
    clear h1 h2 h3 hx e1 e2 e3 hk' hu hml hw0 b0 hh hz hr
    go_enter Try.func121, Try.ntmps121
    go_upto_region 1 with (fail)
    rw [HW0.out]
    go_upto_region 4 with (refine K.out.mono ?_; rintro e w1 ⟨rfl, hb1⟩; have r1 := r0.keep hb1; have B1 := Lib.hid (bel_trans B0.out hb1); have x1 := (hb1.cell (p := ⟨b, off + k, none⟩) hb).trans x0; have hlt1 := Nat.lt_of_lt_of_le hlt0 hb1.size; clear r0 c0 c1 c2 c3 c4 c5)
    have cs : ∀ i v, (([(.slice Ao n co), (.slice Ag n cg), (.slice Ac m cc), (.int .i64 (fr : Int)), (.slice An N.length cn), .slice (some ⟨b, off, none⟩) N.length cp] : List Value)[i]? = some v → w1.cell? ⟨w.heap.size, i, none⟩ = some v) := fun i v hv => (r1.cell i).trans hv
    have hbn : b < w1.heap.size := Nat.lt_of_lt_of_le hb hb1.size
    have hS : Hid (∀ W : World, Below w1.heap.size w1 W → (fun W : World => W.cell? ⟨w.heap.size, 0, none⟩ = some (.slice Ao n co) ∧ W.cell? ⟨w.heap.size, 1, none⟩ = some (.slice Ag n cg) ∧ W.cell? ⟨w.heap.size, 2, none⟩ = some (.slice Ac m cc) ∧ W.cell? ⟨w.heap.size, 3, none⟩ = some (.int .i64 (fr : Int)) ∧ W.cell? ⟨w.heap.size, 4, none⟩ = some (.slice An N.length cn) ∧ W.cell? ⟨w.heap.size, 5, none⟩ = some (.slice (some ⟨b, off, none⟩) N.length cp) ∧ W.cell? ⟨b, off + k, none⟩ = some (.int .i64 u)) W) := Lib.hid (fun W hW => ⟨(hW.cell (p := ⟨w.heap.size, 0, none⟩) hlt1).trans (cs 0 _ rfl), (hW.cell (p := ⟨w.heap.size, 1, none⟩) hlt1).trans (cs 1 _ rfl), (hW.cell (p := ⟨w.heap.size, 2, none⟩) hlt1).trans (cs 2 _ rfl), (hW.cell (p := ⟨w.heap.size, 3, none⟩) hlt1).trans (cs 3 _ rfl), (hW.cell (p := ⟨w.heap.size, 4, none⟩) hlt1).trans (cs 4 _ rfl), (hW.cell (p := ⟨w.heap.size, 5, none⟩) hlt1).trans (cs 5 _ rfl), (hW.cell (p := ⟨b, off + k, none⟩) hbn).trans x1⟩)
    have KC : Hid (∀ W, Below w1.heap.size w1 W → Calls Try.prog 47 #[.agg #[.slice Ao n co, .slice Ag n cg, .slice Ac m cc, .int .i64 (fr : Int), .slice An N.length cn, .slice (some ⟨b, off, none⟩) N.length cp], .int .i64 u] W (GivesInts W (ints r))) := Lib.hid (fun W hW => by
      have := ref37_Children (P := P) (g := g) (O := O) u hN ((HH.out.keep B1.out).keep hW)
      rwa [HR.out] at this)
    clear cs hbn hb hb1 r1 x1 x0
    refine wp_region_held_drew (S := (fun W : World => W.cell? ⟨w.heap.size, 0, none⟩ = some (.slice Ao n co) ∧ W.cell? ⟨w.heap.size, 1, none⟩ = some (.slice Ag n cg) ∧ W.cell? ⟨w.heap.size, 2, none⟩ = some (.slice Ac m cc) ∧ W.cell? ⟨w.heap.size, 3, none⟩ = some (.int .i64 (fr : Int)) ∧ W.cell? ⟨w.heap.size, 4, none⟩ = some (.slice An N.length cn) ∧ W.cell? ⟨w.heap.size, 5, none⟩ = some (.slice (some ⟨b, off, none⟩) N.length cp) ∧ W.cell? ⟨b, off + k, none⟩ = some (.int .i64 u))) (by kernel_rfl) ?_ (fun hHeld => ?_)
    focus ((try dsimp only); first | exact q | exact hS.out _ (by repeat (first | exact Below.refl _ _ | assumption | refine bel_drew ?_ | refine bel_drewN ?_ _ | refine bel_alloc ?_ _ | refine bel_trans ?_ (by assumption))))
    refine tk_yes 0 (v := ?_) rfl (by kernel_rfl) (by kernel_rfl) (by kernel_rfl) (fun _ _ _ h => h) (by kernel_rfl) (by assumption) ?_ ?_; rotate_left; (focus (intro w hSw; (try dsimp only at hSw); go_simp; (first | done | (with_reducible rfl)))); (try simp only [Act.put, List.setIfInBounds_toArray, List.set_cons_zero, List.set_cons_succ])
    refine tk_yes 1 (v := ?_) rfl (by kernel_rfl) (by kernel_rfl) (by kernel_rfl) (fun _ _ _ h => h) (by kernel_rfl) (by assumption) ?_ ?_; rotate_left; (focus (intro w hSw; (try dsimp only at hSw); go_simp; (first | done | (with_reducible rfl)))); (try simp only [Act.put, List.setIfInBounds_toArray, List.set_cons_zero, List.set_cons_succ])
    refine tk_yes 2 (v := ?_) rfl (by kernel_rfl) (by kernel_rfl) (by kernel_rfl) (fun _ _ _ h => h) (by kernel_rfl) (by assumption) ?_ ?_; rotate_left; (focus (intro w hSw; (try dsimp only at hSw); go_simp; (first | done | (with_reducible rfl)))); (try simp only [Act.put, List.setIfInBounds_toArray, List.set_cons_zero, List.set_cons_succ])
    refine tk_yes 3 (v := ?_) rfl (by kernel_rfl) (by kernel_rfl) (by kernel_rfl) (fun _ _ _ h => h) (by kernel_rfl) (by assumption) ?_ ?_; rotate_left; (focus (intro w hSw; (try dsimp only at hSw); go_simp; (first | done | (with_reducible rfl)))); (try simp only [Act.put, List.setIfInBounds_toArray, List.set_cons_zero, List.set_cons_succ])
    refine tk_yes 4 (v := ?_) rfl (by kernel_rfl) (by kernel_rfl) (by kernel_rfl) (fun _ _ _ h => h) (by kernel_rfl) (by assumption) ?_ ?_; rotate_left; (focus (intro w hSw; (try dsimp only at hSw); go_simp; (first | done | (with_reducible rfl)))); (try simp only [Act.put, List.setIfInBounds_toArray, List.set_cons_zero, List.set_cons_succ])
    refine tk_yes 5 (v := ?_) rfl (by kernel_rfl) (by kernel_rfl) (by kernel_rfl) (fun _ _ _ h => h) (by kernel_rfl) (by assumption) ?_ ?_; rotate_left; (focus (intro w hSw; (try dsimp only at hSw); go_simp; (first | done | (with_reducible rfl)))); (try simp only [Act.put, List.setIfInBounds_toArray, List.set_cons_zero, List.set_cons_succ])
    refine tk_call 6 rfl (by kernel_rfl) (by kernel_rfl) (fun KW hKW => ?_); go_simp; go_at_call 47; refine (KC.out _ (by repeat (first | exact Below.refl _ _ | assumption | refine bel_drew ?_ | refine bel_drewN ?_ _ | refine bel_alloc ?_ _ | refine bel_trans ?_ (by assumption)))).mono ?_; rintro e u1 ⟨A2, m2, c2, rfl, hA, hbu⟩; have hbb := bel_to (W0 := w1) (by repeat (first | exact Below.refl _ _ | assumption | refine bel_drew ?_ | refine bel_drewN ?_ _ | refine bel_alloc ?_ _ | refine bel_trans ?_ (by assumption))) hbu; have q := hS.out _ hbb; clear hbu; refine hKW.out _ _ ?_ (fun hHeld => ?_); (focus ((try dsimp only); first | exact q | exact hS.out _ (by repeat (first | exact Below.refl _ _ | assumption | refine bel_drew ?_ | refine bel_drewN ?_ _ | refine bel_alloc ?_ _ | refine bel_trans ?_ (by assumption))))); clear hKW KW; (try simp only [Act.put, List.setIfInBounds_toArray, List.set_cons_zero, List.set_cons_succ])
    refine tk_yes 7 (v := ?_) rfl (by kernel_rfl) (by kernel_rfl) (by kernel_rfl) (fun _ _ _ h => h) (by kernel_rfl) (by assumption) ?_ ?_; rotate_left; (focus (intro w hSw; (try dsimp only at hSw); go_simp; (first | done | (with_reducible rfl)))); (try simp only [Act.put, List.setIfInBounds_toArray, List.set_cons_zero, List.set_cons_succ])
    refine wpAnyH_done (by kernel_rfl) ?_ _
    obtain ⟨q0, q1, q2, q3, q4, q5, q6⟩ := q
    have hml : m2 = r.length := by have := hA.1.1; rw [ints_len] at this; omega
    subst hml
    have HA := Lib.hid hA.1
    have hrl : r.length ≤ 9223372036854775807 := hA.1.2.1
    have HBB := Lib.hid (bel_trans B1.out hbb)
    clear hA hbb q0 q1 q2 q3 q4 q5 q6 hS KC
    go_wp2_with fail
    go_loop [7] (fun i => NextRel r x i) (fun i => r.length + 1 - (intOf i).toNat)
    case atStart => exact ⟨0, .inl rfl, rfl, fun j hj h => absurd h (by omega)⟩
    case round =>
      obtain ⟨k, hk, rfl, hf⟩ := hrel
      have HF := Lib.hid hf
      clear hf
      have g0 : (0 : Int) ≤ (k : Int) := by omega
      have hw : IntKind.i64.wrap ((k : Int) + 1) = (k : Int) + 1 := by rw [IntKind.wrap_i64]; omega
      by_cases hlt : k + 1 < r.length
      · have hlt' : (k : Int) + 1 < (r.length : Int) := by omega
        have hlt2 : (k : Int) < (r.length : Int) := by omega
        have hk1 : (0 : Int) ≤ (k : Int) + 1 := by omega
        obtain ⟨b, off, rfl, hb, hc⟩ := HA.out.2.2 (by omega)
        have x0 := hc k (by omega)
        rw [ints_get (by omega)] at x0
        have x1 := hc (k + 1) hlt
        rw [ints_get hlt] at x1
        obtain ⟨v, hv⟩ : ∃ v : Nat, r[k] = v := ⟨_, rfl⟩
        rw [hv] at x0
        clear hc
        by_cases hvx : (v : Int) = x
        · have e := next_some hlt (by rw [hv]; exact hvx) HF.out
          rw [HZ.out] at e
          have E := Lib.hid e
          have e1 : ((v : Int) == x) = true := by simpa using hvx
          obtain ⟨v1, hv1⟩ : ∃ v : Nat, r[k + 1] = v := ⟨_, rfl⟩
          rw [hv1] at x1 E
          have x2 : u1.cell? ⟨b, off + (k + 1), none⟩ = some (.int .i64 (v1 : Int)) := x1
          have hto : ((k : Int) + 1).toNat = k + 1 := by omega
          clear e hvx hv hv1
          go_wp2_with fail
          go_ret
          exact ⟨ret_int E.out.symm, HBB.out⟩
        · have e1 : ((v : Int) == x) = false := by simpa using hvx
          have HV := Lib.hid hv
          have HXX := Lib.hid hvx
          clear hv hvx x1
          go_wp2_with fail
          go_round
          case rel =>
            refine ⟨k + 1, .inr (by omega), by go_num, fun j hj hjk => ?_⟩
            by_cases e : j = k
            · subst e; rw [HV.out]; exact HXX.out
            · exact HF.out j hj (by omega)
          case measure => simp [intOf]; omega
      · have hlt' : ¬ (k : Int) + 1 < (r.length : Int) := by omega
        have e := next_none HX.out.1 (fun j hj => HF.out j (by omega) (by omega))
        rw [HZ.out] at e
        have E := Lib.hid e
        clear e
        go_wp2_with fail
        go_ret
        exact ⟨ret_int E.out.symm, HBB.out⟩
  · have e1 : PC.place N x = -1 := by unfold PC.place; rw [if_neg hx]
    have e2 : nextN N up x = -1 := by unfold nextN; rw [if_neg hx]
    rw [e1] at K
    rw [e2]
    replace K := Lib.hid K
    clear h1 h2 h3 hx e1 e2 hml hw0 b0 hh HH
    go_enter Try.func121, Try.ntmps121
    go_upto_region 1 with (fail)
    rw [HW0.out]
    go_wp2_with fail
    refine K.out.mono ?_
    rintro e w1 ⟨rfl, hb1⟩
    have B1 := Lib.hid (bel_trans B0.out hb1)
    clear hb1 r0 c0 c1 c2 c3 c4 c5
    go_wp2_with fail
    go_ret
    exact ⟨rfl, B1.out⟩
end Go.Proofs.Ytdhcmnbajkpjiaa
/-
  Chapter 37: a forest and the reference's tell the same of a place.
-/
namespace Go.Proofs.Ytdhcmnbajkpjiaa
open Go.RowKit
open Go.Maps
set_option linter.unusedVariables false
set_option linter.unusedSimpArgs false
attribute [local go_sem] drewN_alloc drewN_setCell

variable {P : Nat → Prop} {wa w w' : World} {V : Value} {n : Nat} {own : Nat → Prop} {Fb : Nat} {S : FSt} {N : List Nat}
theorem to_bel {f : Nat} {args : Array Value} {W : World} {v : Value} (h : Calls Try.prog f args W fun e w' => e = .returned v ∧ W = w') : Calls Try.prog f args W fun e w' => e = .returned v ∧ Below W.heap.size W w' :=
  h.mono fun e w' hh => ⟨hh.1, hh.2 ▸ Below.refl _ _⟩
set_option maxRecDepth 100000 in
set_option maxHeartbeats 8000000 in
theorem law37_same_yes (x y : Int) (hx : BdI x) (hin : 0 ≤ PC.place N x) (h : ForestOver wa w own Fb n S) (hr : RefF P w V n S.g S.O S.cl S.fr N S.up) (rel : NRel n S N) (hN : N.length ≤ 4096) :
    Calls Try.prog 43 #[.pointer (some ⟨Fb, 0, none⟩), V, .int .i64 x, .int .i64 y] w fun e w' => e = .returned (.bool true) ∧ Below w.heap.size w w' := by
  have hi := h.fi
  have hO : ∀ p ∈ S.O, p < n := fun p hp => hi.lt hp
  have eis := rel.is x
  have eup := rel.up x
  have ekid := rel.kids hi x
  have enext := rel.next hi x
  have hh := hr
  obtain ⟨Ao, co, Ag, cg, Ac, cc, An, cn, Ap, cp, rfl, h1, h2, h3⟩ := hr
  obtain ⟨m, hml⟩ : ∃ m, S.cl.length = m := ⟨_, rfl⟩
  obtain ⟨fr, hfr⟩ : ∃ f, S.fr = f := ⟨_, rfl⟩
  rw [hml, hfr] at hh h1
  rw [hml, hfr]
  obtain ⟨w0, hw0⟩ : ∃ w0, w.alloc (.cells #[.slice Ao n co, .slice Ag n cg, .slice Ac m cc, .int .i64 (fr : Int), .slice An N.length cn, .slice Ap N.length cp] 58) = w0 := ⟨_, rfl⟩
  have r0 : RowAt w0 w.heap.size 58 [.slice Ao n co, .slice Ag n cg, .slice Ac m cc, .int .i64 (fr : Int), .slice An N.length cn, .slice Ap N.length cp] := by rw [← hw0]; exact RowAt.new w 58 _
  have b0 : Below w.heap.size w w0 := by rw [← hw0]; exact (by repeat (first | exact Below.refl _ _ | assumption | refine bel_drew ?_ | refine bel_drewN ?_ _ | refine bel_alloc ?_ _ | refine bel_set ?_ (by first | (dsimp only; omega) | (simp; done) | (simp; omega)) _ | refine bel_trans ?_ (by assumption)))
  have c4 : w0.cell? ⟨w.heap.size, 4, none⟩ = some (.slice An N.length cn) := by rw [r0.cell]; rfl
  have c5 : w0.cell? ⟨w.heap.size, 5, none⟩ = some (.slice Ap N.length cp) := by rw [r0.cell]; rfl
  have hlt0 : w.heap.size < w0.heap.size := by rw [← hw0]; simp
  have HW0 := Lib.hid hw0
  have H := Lib.hid (h.keep b0)
  have HR := Lib.hid (hh.keep b0)
  have H1 := Lib.hid (h1.keep b0)
  have B0 := Lib.hid b0
  have ekid2 : childN N S.up x = kidV S.O S.R x := by rw [if_pos hin] at ekid; exact ekid
  have eb : decide (x ∈ ints S.O) = true := by rw [← eis]; exact decide_eq_true hin
  obtain ⟨k, hk⟩ : ∃ k, PC.place N x = k := ⟨_, rfl⟩
  rw [hk] at hin
  have KA : Hid (∀ W, Below w0.heap.size w0 W → Calls Try.prog 110 #[.agg #[.slice Ao n co, .slice Ag n cg, .slice Ac m cc, .int .i64 (fr : Int), .slice An N.length cn, .slice Ap N.length cp], .int .i64 x] W fun e w' => e = .returned (.int .i64 k) ∧ Below W.heap.size W w') := Lib.hid (fun W hW => by
    have := ref37_At x (HR.out.keep hW)
    rwa [hk] at this)
  have KI : Hid (∀ W, Below w0.heap.size w0 W → Calls Try.prog 48 #[.pointer (some ⟨Fb, 0, none⟩), .int .i64 x] W fun e w' => e = .returned (.bool true) ∧ Below W.heap.size W w') := Lib.hid (fun W hW => by
    have := to_bel (overf_Is x (H.out.keep hW))
    rwa [eb] at this)
  obtain ⟨rb, hrb⟩ : ∃ b, rightB S.O S.g x y = b := ⟨_, rfl⟩
  have KR : Hid (∀ W, Below w0.heap.size w0 W → Calls Try.prog 52 #[.pointer (some ⟨Fb, 0, none⟩), .int .i64 x, .int .i64 y] W fun e w' => e = .returned (.bool rb) ∧ Below W.heap.size W w') := Lib.hid (fun W hW => by
    have := overf_Right x y hx (H.out.keep hW)
    rwa [hrb] at this)
  have KQ : Hid (∀ W, Below w0.heap.size w0 W → Calls Try.prog 118 #[.agg #[.slice Ao n co, .slice Ag n cg, .slice Ac m cc, .int .i64 (fr : Int)], .int .i64 x, .int .i64 y] W fun e w' => e = .returned (.bool rb) ∧ Below W.heap.size W w') := Lib.hid (fun W hW => by
    have := ref06_Right x y (H1.out.keep hW) hO
    rwa [hrb] at this)
  obtain ⟨pv, hpv⟩ : ∃ b, parV S.O S.up x = b := ⟨_, rfl⟩
  have KP : Hid (∀ W, Below w0.heap.size w0 W → Calls Try.prog 49 #[.pointer (some ⟨Fb, 0, none⟩), .int .i64 x] W fun e w' => e = .returned (.int .i64 pv) ∧ Below W.heap.size W w') := Lib.hid (fun W hW => by
    have := to_bel (overf_Parent x (H.out.keep hW))
    rwa [hpv] at this)
  have KU : Hid (∀ W, Below w0.heap.size w0 W → Calls Try.prog 119 #[.agg #[.slice Ao n co, .slice Ag n cg, .slice Ac m cc, .int .i64 (fr : Int), .slice An N.length cn, .slice Ap N.length cp], .int .i64 x] W fun e w' => e = .returned (.int .i64 pv) ∧ Below W.heap.size W w') := Lib.hid (fun W hW => by
    have := ref37_Up x (HR.out.keep hW)
    rwa [eup, hpv] at this)
  obtain ⟨fv, hfv⟩ : ∃ b, PC.headD (kidV S.O S.R x) = b := ⟨_, rfl⟩
  have KF : Hid (∀ W, Below w0.heap.size w0 W → Calls Try.prog 53 #[.pointer (some ⟨Fb, 0, none⟩), .int .i64 x] W fun e w' => e = .returned (.int .i64 fv) ∧ Below W.heap.size W w') := Lib.hid (fun W hW => by
    have := to_bel (overf_First x (H.out.keep hW))
    rwa [hfv] at this)
  obtain ⟨nv, hnv⟩ : ∃ b, PC.nextV (n + 1) S.R x = b := ⟨_, rfl⟩
  have KN : Hid (∀ W, Below w0.heap.size w0 W → Calls Try.prog 54 #[.pointer (some ⟨Fb, 0, none⟩), .int .i64 x] W fun e w' => e = .returned (.int .i64 nv) ∧ Below W.heap.size W w') := Lib.hid (fun W hW => by
    have := to_bel (overf_Next x (H.out.keep hW))
    rwa [hnv] at this)
  have KM : Hid (∀ W, Below w0.heap.size w0 W → Calls Try.prog 121 #[.agg #[.slice Ao n co, .slice Ag n cg, .slice Ac m cc, .int .i64 (fr : Int), .slice An N.length cn, .slice Ap N.length cp], .int .i64 x] W fun e w' => e = .returned (.int .i64 nv) ∧ Below W.heap.size W w') := Lib.hid (fun W hW => by
    have := ref37_Next x (by omega) (HR.out.keep hW)
    rwa [enext, hnv] at this)
  have KC : Hid (∀ W, Below w0.heap.size w0 W → Calls Try.prog 51 #[.pointer (some ⟨Fb, 0, none⟩), .int .i64 x] W (GivesInts W (ints (kidV S.O S.R x)))) := Lib.hid (fun W hW => overf_Children x (H.out.keep hW))
  have KH : Hid (∀ W, Below w0.heap.size w0 W → Calls Try.prog 47 #[.agg #[.slice Ao n co, .slice Ag n cg, .slice Ac m cc, .int .i64 (fr : Int), .slice An N.length cn, .slice Ap N.length cp], .int .i64 x] W (GivesInts W (ints (kidV S.O S.R x)))) := Lib.hid (fun W hW => by
    have := ref37_Children x (by omega) (HR.out.keep hW)
    rwa [ekid2] at this)
  have hS : Hid (∀ W : World, Below w0.heap.size w0 W → (fun W : World => W.cell? ⟨w.heap.size, 0, none⟩ = some (.slice Ao n co) ∧ W.cell? ⟨w.heap.size, 1, none⟩ = some (.slice Ag n cg) ∧ W.cell? ⟨w.heap.size, 2, none⟩ = some (.slice Ac m cc) ∧ W.cell? ⟨w.heap.size, 3, none⟩ = some (.int .i64 (fr : Int)) ∧ W.cell? ⟨w.heap.size, 4, none⟩ = some (.slice An N.length cn) ∧ W.cell? ⟨w.heap.size, 5, none⟩ = some (.slice Ap N.length cp)) W) := Lib.hid (fun W hW => ⟨(hW.cell (p := ⟨w.heap.size, 0, none⟩) hlt0).trans ((r0.cell 0).trans rfl), (hW.cell (p := ⟨w.heap.size, 1, none⟩) hlt0).trans ((r0.cell 1).trans rfl), (hW.cell (p := ⟨w.heap.size, 2, none⟩) hlt0).trans ((r0.cell 2).trans rfl), (hW.cell (p := ⟨w.heap.size, 3, none⟩) hlt0).trans ((r0.cell 3).trans rfl), (hW.cell (p := ⟨w.heap.size, 4, none⟩) hlt0).trans ((r0.cell 4).trans rfl), (hW.cell (p := ⟨w.heap.size, 5, none⟩) hlt0).trans ((r0.cell 5).trans rfl)⟩)
  have HF := Lib.hid hfv
  have HKD := Lib.hid ekid2
  have j1 : decide (k < (0 : Int)) = false := decide_eq_false (by omega)
  have j2 : decide ((0 : Int) ≤ k) = true := decide_eq_true hin
  have j3 : (0 : Int) ≤ k := by omega
  clear h hh h1 h2 h3 rel hi hO eis eup ekid ekid2 enext hml hfr b0 hw0 hx hin hk eb hrb hpv hfv hnv hN
  go_enter Try.func43, Try.ntmps43
  go_upto_region 1 with (fail)
  rw [HW0.out]
  have c0 := (hS.out _ (Below.refl _ _)).1
  have c1 := (hS.out _ (Below.refl _ _)).2.1
  have c2 := (hS.out _ (Below.refl _ _)).2.2.1
  have c3 := (hS.out _ (Below.refl _ _)).2.2.2.1
  go_wp2_with fail
  refine (KA.out _ (Below.refl _ _)).mono ?_
  rintro e w1 ⟨rfl, b1⟩
  have q := hS.out _ b1
  obtain ⟨d0, d1, d2, d3, d4, d5⟩ := q
  clear c0 c1 c2 c3 c4 c5
  go_wp2_with fail
  refine (KH.out _ b1).mono ?_
  rintro e w2 ⟨Ak, nk, ck, rfl, ik, bk⟩
  have B2 := bel_to (W0 := w0) b1 bk
  have KK0 : IntsAt w2 Ak nk (ints (kidV S.O S.R x)) := ik.1
  clear bk ik d0 d1 d2 d3 d4 d5
  go_upto_region 5 with (fail)
  refine region_name ?_
  rintro W2 hW2
  have b22 : Below w2.heap.size w2 W2 := by rw [hW2]; exact (by repeat (first | exact Below.refl _ _ | assumption | refine bel_drew ?_ | refine bel_drewN ?_ _ | refine bel_alloc ?_ _ | refine bel_set ?_ (by first | (dsimp only; omega) | (simp; done) | (simp; omega)) _ | refine bel_trans ?_ (by assumption)))
  have KK1 := KK0.keep b22
  have B22 := bel_to (W0 := w0) B2 b22
  have KK : Hid (∀ W, Below W2.heap.size W2 W → IntsAt W Ak nk (ints (kidV S.O S.R x))) := Lib.hid (fun W hW => KK1.keep hW)
  have KT : Hid (∀ W, Below W2.heap.size W2 W → Calls Try.prog 120 #[.slice Ak nk ck] W fun e w' => e = .returned (.int .i64 fv) ∧ Below W.heap.size W w') := Lib.hid (fun W hW => by
    have := to_bel (law37_first ck (KK.out W hW))
    rwa [HF.out] at this)
  have BW := Lib.hid (bel_trans B0.out B22)
  replace hS : Hid (∀ W : World, Below W2.heap.size W2 W → _) := Lib.hid (fun W hW => hS.out W (bel_trans B22 hW))
  replace KI : Hid (∀ W : World, Below W2.heap.size W2 W → _) := Lib.hid (fun W hW => KI.out W (bel_trans B22 hW))
  replace KR : Hid (∀ W : World, Below W2.heap.size W2 W → _) := Lib.hid (fun W hW => KR.out W (bel_trans B22 hW))
  replace KQ : Hid (∀ W : World, Below W2.heap.size W2 W → _) := Lib.hid (fun W hW => KQ.out W (bel_trans B22 hW))
  replace KP : Hid (∀ W : World, Below W2.heap.size W2 W → _) := Lib.hid (fun W hW => KP.out W (bel_trans B22 hW))
  replace KU : Hid (∀ W : World, Below W2.heap.size W2 W → _) := Lib.hid (fun W hW => KU.out W (bel_trans B22 hW))
  replace KF : Hid (∀ W : World, Below W2.heap.size W2 W → _) := Lib.hid (fun W hW => KF.out W (bel_trans B22 hW))
  replace KN : Hid (∀ W : World, Below W2.heap.size W2 W → _) := Lib.hid (fun W hW => KN.out W (bel_trans B22 hW))
  replace KM : Hid (∀ W : World, Below W2.heap.size W2 W → _) := Lib.hid (fun W hW => KM.out W (bel_trans B22 hW))
  replace KC : Hid (∀ W : World, Below W2.heap.size W2 W → _) := Lib.hid (fun W hW => KC.out W (bel_trans B22 hW))
  clear hW2 b22 KK1 KK0 B22 B2 b1 hlt0 r0
  refine wp_region_held_drew (S := (fun W : World => W.cell? ⟨w.heap.size, 0, none⟩ = some (.slice Ao n co) ∧ W.cell? ⟨w.heap.size, 1, none⟩ = some (.slice Ag n cg) ∧ W.cell? ⟨w.heap.size, 2, none⟩ = some (.slice Ac m cc) ∧ W.cell? ⟨w.heap.size, 3, none⟩ = some (.int .i64 (fr : Int)) ∧ W.cell? ⟨w.heap.size, 4, none⟩ = some (.slice An N.length cn) ∧ W.cell? ⟨w.heap.size, 5, none⟩ = some (.slice Ap N.length cp))) (by kernel_rfl) ?_ (fun hHeld => ?_)
  focus ((try dsimp only); first | exact q | exact hS.out _ (by repeat (first | exact Below.refl _ _ | assumption | refine bel_drew ?_ | refine bel_drewN ?_ _ | refine bel_alloc ?_ _ | refine bel_trans ?_ (by assumption))))
  refine tk_yes 0 (v := ?_) rfl (by kernel_rfl) (by kernel_rfl) (by kernel_rfl) (fun _ _ _ h => h) (by kernel_rfl) (by assumption) ?_ ?_; rotate_left; (focus (intro w hSw; (try dsimp only at hSw); go_simp; (first | done | (with_reducible rfl)))); (try simp only [Act.put, List.setIfInBounds_toArray, List.set_cons_zero, List.set_cons_succ])
  refine tk_yes 1 (v := ?_) rfl (by kernel_rfl) (by kernel_rfl) (by kernel_rfl) (fun _ _ _ h => h) (by kernel_rfl) (by assumption) ?_ ?_; rotate_left; (focus (intro w hSw; (try dsimp only at hSw); go_simp; (first | done | (with_reducible rfl)))); (try simp only [Act.put, List.setIfInBounds_toArray, List.set_cons_zero, List.set_cons_succ])
  refine tk_yes 3 (v := ?_) rfl (by kernel_rfl) (by kernel_rfl) (by kernel_rfl) (fun _ _ _ h => h) (by kernel_rfl) (by assumption) ?_ ?_; rotate_left; (focus (intro w hSw; (try dsimp only at hSw); go_simp; (first | done | (with_reducible rfl)))); (try simp only [Act.put, List.setIfInBounds_toArray, List.set_cons_zero, List.set_cons_succ])
  refine tk_call 2 rfl (by kernel_rfl) (by kernel_rfl) (fun KW hKW => ?_); go_simp; go_at_call 48; refine (KI.out _ (by repeat (first | exact Below.refl _ _ | assumption | refine bel_drew ?_ | refine bel_drewN ?_ _ | refine bel_alloc ?_ _ | refine bel_trans ?_ (by assumption)))).mono ?_; rintro e u2 ⟨rfl, hb2⟩; have B2 := bel_to (W0 := W2) (by repeat (first | exact Below.refl _ _ | assumption | refine bel_drew ?_ | refine bel_drewN ?_ _ | refine bel_alloc ?_ _ | refine bel_trans ?_ (by assumption))) hb2; have q := hS.out _ B2; clear hb2; refine hKW.out _ _ ?_ (fun hHeld => ?_); (focus ((try dsimp only); first | exact q | exact hS.out _ (by repeat (first | exact Below.refl _ _ | assumption | refine bel_drew ?_ | refine bel_drewN ?_ _ | refine bel_alloc ?_ _ | refine bel_trans ?_ (by assumption))))); clear hKW KW; (try simp only [Act.put, List.setIfInBounds_toArray, List.set_cons_zero, List.set_cons_succ])
  refine tk_yes 4 (v := ?_) rfl (by kernel_rfl) (by kernel_rfl) (by kernel_rfl) (fun _ _ _ h => h) (by kernel_rfl) (by assumption) ?_ ?_; rotate_left; (focus (intro w hSw; (try dsimp only at hSw); go_simp; (first | done | (with_reducible rfl)))); (try simp only [Act.put, List.setIfInBounds_toArray, List.set_cons_zero, List.set_cons_succ])
  refine tk_yes 5 (v := ?_) rfl (by kernel_rfl) (by kernel_rfl) (by kernel_rfl) (fun _ _ _ h => h) (by kernel_rfl) (by assumption) ?_ ?_; rotate_left; (focus (intro w hSw; (try dsimp only at hSw); go_simp; (first | done | (with_reducible rfl)))); (try simp only [Act.put, List.setIfInBounds_toArray, List.set_cons_zero, List.set_cons_succ])
  refine tk_yes 6 (v := ?_) rfl (by kernel_rfl) (by kernel_rfl) (by kernel_rfl) (fun _ _ _ h => h) (by kernel_rfl) (by assumption) ?_ ?_; rotate_left; (focus (intro w hSw; (try dsimp only at hSw); go_simp; (first | done | (with_reducible rfl)))); (try simp only [Act.put, List.setIfInBounds_toArray, List.set_cons_zero, List.set_cons_succ])
  refine tk_yes 7 (v := ?_) rfl (by kernel_rfl) (by kernel_rfl) (by kernel_rfl) (fun _ _ _ h => h) (by kernel_rfl) (by assumption) ?_ ?_; rotate_left; (focus (intro w hSw; (try dsimp only at hSw); go_simp; (first | done | (with_reducible rfl)))); (try simp only [Act.put, List.setIfInBounds_toArray, List.set_cons_zero, List.set_cons_succ])
  refine tk_yes 8 (v := ?_) rfl (by kernel_rfl) (by kernel_rfl) (by kernel_rfl) (fun _ _ _ h => h) (by kernel_rfl) (by assumption) ?_ ?_; rotate_left; (focus (intro w hSw; (try dsimp only at hSw); go_simp; (first | done | (with_reducible rfl)))); (try simp only [Act.put, List.setIfInBounds_toArray, List.set_cons_zero, List.set_cons_succ])
  refine tk_yes 10 (v := ?_) rfl (by kernel_rfl) (by kernel_rfl) (by kernel_rfl) (fun _ _ _ h => h) (by kernel_rfl) (by assumption) ?_ ?_; rotate_left; (focus (intro w hSw; (try dsimp only at hSw); go_simp; (first | done | (with_reducible rfl)))); (try simp only [Act.put, List.setIfInBounds_toArray, List.set_cons_zero, List.set_cons_succ])
  refine tk_yes 11 (v := ?_) rfl (by kernel_rfl) (by kernel_rfl) (by kernel_rfl) (fun _ _ _ h => h) (by kernel_rfl) (by assumption) ?_ ?_; rotate_left; (focus (intro w hSw; (try dsimp only at hSw); go_simp; (first | done | (with_reducible rfl)))); (try simp only [Act.put, List.setIfInBounds_toArray, List.set_cons_zero, List.set_cons_succ])
  refine tk_yes 12 (v := ?_) rfl (by kernel_rfl) (by kernel_rfl) (by kernel_rfl) (fun _ _ _ h => h) (by kernel_rfl) (by assumption) ?_ ?_; rotate_left; (focus (intro w hSw; (try dsimp only at hSw); go_simp; (first | done | (with_reducible rfl)))); (try simp only [Act.put, List.setIfInBounds_toArray, List.set_cons_zero, List.set_cons_succ])
  refine tk_yes 13 (v := ?_) rfl (by kernel_rfl) (by kernel_rfl) (by kernel_rfl) (fun _ _ _ h => h) (by kernel_rfl) (by assumption) ?_ ?_; rotate_left; (focus (intro w hSw; (try dsimp only at hSw); go_simp; (first | done | (with_reducible rfl)))); (try simp only [Act.put, List.setIfInBounds_toArray, List.set_cons_zero, List.set_cons_succ])
  refine tk_call 9 rfl (by kernel_rfl) (by kernel_rfl) (fun KW hKW => ?_); go_simp; go_at_call 52; refine (KR.out _ (by repeat (first | exact Below.refl _ _ | assumption | refine bel_drew ?_ | refine bel_drewN ?_ _ | refine bel_alloc ?_ _ | refine bel_trans ?_ (by assumption)))).mono ?_; rintro e u9 ⟨rfl, hb9⟩; have B9 := bel_to (W0 := W2) (by repeat (first | exact Below.refl _ _ | assumption | refine bel_drew ?_ | refine bel_drewN ?_ _ | refine bel_alloc ?_ _ | refine bel_trans ?_ (by assumption))) hb9; have q := hS.out _ B9; clear hb9; refine hKW.out _ _ ?_ (fun hHeld => ?_); (focus ((try dsimp only); first | exact q | exact hS.out _ (by repeat (first | exact Below.refl _ _ | assumption | refine bel_drew ?_ | refine bel_drewN ?_ _ | refine bel_alloc ?_ _ | refine bel_trans ?_ (by assumption))))); clear hKW KW; (try simp only [Act.put, List.setIfInBounds_toArray, List.set_cons_zero, List.set_cons_succ])
  refine tk_call 14 rfl (by kernel_rfl) (by kernel_rfl) (fun KW hKW => ?_); go_simp; go_at_call 118; refine (KQ.out _ (by repeat (first | exact Below.refl _ _ | assumption | refine bel_drew ?_ | refine bel_drewN ?_ _ | refine bel_alloc ?_ _ | refine bel_trans ?_ (by assumption)))).mono ?_; rintro e u14 ⟨rfl, hb14⟩; have B14 := bel_to (W0 := W2) (by repeat (first | exact Below.refl _ _ | assumption | refine bel_drew ?_ | refine bel_drewN ?_ _ | refine bel_alloc ?_ _ | refine bel_trans ?_ (by assumption))) hb14; have q := hS.out _ B14; clear hb14; refine hKW.out _ _ ?_ (fun hHeld => ?_); (focus ((try dsimp only); first | exact q | exact hS.out _ (by repeat (first | exact Below.refl _ _ | assumption | refine bel_drew ?_ | refine bel_drewN ?_ _ | refine bel_alloc ?_ _ | refine bel_trans ?_ (by assumption))))); clear hKW KW; (try simp only [Act.put, List.setIfInBounds_toArray, List.set_cons_zero, List.set_cons_succ])
  refine tk_yes 15 (v := ?_) rfl (by kernel_rfl) (by kernel_rfl) (by kernel_rfl) (fun _ _ _ h => h) (by kernel_rfl) (by assumption) ?_ ?_; rotate_left; (focus (intro w hSw; (try dsimp only at hSw); go_simp; (first | done | (with_reducible rfl)))); (try simp only [Act.put, List.setIfInBounds_toArray, List.set_cons_zero, List.set_cons_succ])
  refine tk_yes 16 (v := ?_) rfl (by kernel_rfl) (by kernel_rfl) (by kernel_rfl) (fun _ _ _ h => h) (by kernel_rfl) (by assumption) ?_ ?_; rotate_left; (focus (intro w hSw; (try dsimp only at hSw); go_simp; (first | done | (with_reducible rfl)))); (try simp only [Act.put, List.setIfInBounds_toArray, List.set_cons_zero, List.set_cons_succ])
  refine tk_yes 17 (v := ?_) rfl (by kernel_rfl) (by kernel_rfl) (by kernel_rfl) (fun _ _ _ h => h) (by kernel_rfl) (by assumption) ?_ ?_; rotate_left; (focus (intro w hSw; (try dsimp only at hSw); go_simp; (first | done | (with_reducible rfl)))); (try simp only [Act.put, List.setIfInBounds_toArray, List.set_cons_zero, List.set_cons_succ])
  refine tk_yes 18 (v := ?_) rfl (by kernel_rfl) (by kernel_rfl) (by kernel_rfl) (fun _ _ _ h => h) (by kernel_rfl) (by assumption) ?_ ?_; rotate_left; (focus (intro w hSw; (try dsimp only at hSw); go_simp; (first | done | (with_reducible rfl)))); (try simp only [Act.put, List.setIfInBounds_toArray, List.set_cons_zero, List.set_cons_succ])
  refine tk_yes 19 (v := ?_) rfl (by kernel_rfl) (by kernel_rfl) (by kernel_rfl) (fun _ _ _ h => h) (by kernel_rfl) (by assumption) ?_ ?_; rotate_left; (focus (intro w hSw; (try dsimp only at hSw); go_simp; (first | done | (with_reducible rfl)))); (try simp only [Act.put, List.setIfInBounds_toArray, List.set_cons_zero, List.set_cons_succ])
  refine tk_yes 21 (v := ?_) rfl (by kernel_rfl) (by kernel_rfl) (by kernel_rfl) (fun _ _ _ h => h) (by kernel_rfl) (by assumption) ?_ ?_; rotate_left; (focus (intro w hSw; (try dsimp only at hSw); go_simp; (first | done | (with_reducible rfl)))); (try simp only [Act.put, List.setIfInBounds_toArray, List.set_cons_zero, List.set_cons_succ])
  refine tk_yes 22 (v := ?_) rfl (by kernel_rfl) (by kernel_rfl) (by kernel_rfl) (fun _ _ _ h => h) (by kernel_rfl) (by assumption) ?_ ?_; rotate_left; (focus (intro w hSw; (try dsimp only at hSw); go_simp; (first | done | (with_reducible rfl)))); (try simp only [Act.put, List.setIfInBounds_toArray, List.set_cons_zero, List.set_cons_succ])
  refine tk_call 20 rfl (by kernel_rfl) (by kernel_rfl) (fun KW hKW => ?_); go_simp; go_at_call 49; refine (KP.out _ (by repeat (first | exact Below.refl _ _ | assumption | refine bel_drew ?_ | refine bel_drewN ?_ _ | refine bel_alloc ?_ _ | refine bel_trans ?_ (by assumption)))).mono ?_; rintro e u20 ⟨rfl, hb20⟩; have B20 := bel_to (W0 := W2) (by repeat (first | exact Below.refl _ _ | assumption | refine bel_drew ?_ | refine bel_drewN ?_ _ | refine bel_alloc ?_ _ | refine bel_trans ?_ (by assumption))) hb20; have q := hS.out _ B20; clear hb20; refine hKW.out _ _ ?_ (fun hHeld => ?_); (focus ((try dsimp only); first | exact q | exact hS.out _ (by repeat (first | exact Below.refl _ _ | assumption | refine bel_drew ?_ | refine bel_drewN ?_ _ | refine bel_alloc ?_ _ | refine bel_trans ?_ (by assumption))))); clear hKW KW; (try simp only [Act.put, List.setIfInBounds_toArray, List.set_cons_zero, List.set_cons_succ])
  refine tk_call 23 rfl (by kernel_rfl) (by kernel_rfl) (fun KW hKW => ?_); go_simp; go_at_call 119; refine (KU.out _ (by repeat (first | exact Below.refl _ _ | assumption | refine bel_drew ?_ | refine bel_drewN ?_ _ | refine bel_alloc ?_ _ | refine bel_trans ?_ (by assumption)))).mono ?_; rintro e u23 ⟨rfl, hb23⟩; have B23 := bel_to (W0 := W2) (by repeat (first | exact Below.refl _ _ | assumption | refine bel_drew ?_ | refine bel_drewN ?_ _ | refine bel_alloc ?_ _ | refine bel_trans ?_ (by assumption))) hb23; have q := hS.out _ B23; clear hb23; refine hKW.out _ _ ?_ (fun hHeld => ?_); (focus ((try dsimp only); first | exact q | exact hS.out _ (by repeat (first | exact Below.refl _ _ | assumption | refine bel_drew ?_ | refine bel_drewN ?_ _ | refine bel_alloc ?_ _ | refine bel_trans ?_ (by assumption))))); clear hKW KW; (try simp only [Act.put, List.setIfInBounds_toArray, List.set_cons_zero, List.set_cons_succ])
  refine tk_yes 24 (v := ?_) rfl (by kernel_rfl) (by kernel_rfl) (by kernel_rfl) (fun _ _ _ h => h) (by kernel_rfl) (by assumption) ?_ ?_; rotate_left; (focus (intro w hSw; (try dsimp only at hSw); go_simp; (first | done | (with_reducible rfl)))); (try simp only [Act.put, List.setIfInBounds_toArray, List.set_cons_zero, List.set_cons_succ])
  refine tk_yes 25 (v := ?_) rfl (by kernel_rfl) (by kernel_rfl) (by kernel_rfl) (fun _ _ _ h => h) (by kernel_rfl) (by assumption) ?_ ?_; rotate_left; (focus (intro w hSw; (try dsimp only at hSw); go_simp; (first | done | (with_reducible rfl)))); (try simp only [Act.put, List.setIfInBounds_toArray, List.set_cons_zero, List.set_cons_succ])
  refine tk_yes 26 (v := ?_) rfl (by kernel_rfl) (by kernel_rfl) (by kernel_rfl) (fun _ _ _ h => h) (by kernel_rfl) (by assumption) ?_ ?_; rotate_left; (focus (intro w hSw; (try dsimp only at hSw); go_simp; (first | done | (with_reducible rfl)))); (try simp only [Act.put, List.setIfInBounds_toArray, List.set_cons_zero, List.set_cons_succ])
  refine tk_yes 27 (v := ?_) rfl (by kernel_rfl) (by kernel_rfl) (by kernel_rfl) (fun _ _ _ h => h) (by kernel_rfl) (by assumption) ?_ ?_; rotate_left; (focus (intro w hSw; (try dsimp only at hSw); go_simp; (first | done | (with_reducible rfl)))); (try simp only [Act.put, List.setIfInBounds_toArray, List.set_cons_zero, List.set_cons_succ])
  refine tk_yes 28 (v := ?_) rfl (by kernel_rfl) (by kernel_rfl) (by kernel_rfl) (fun _ _ _ h => h) (by kernel_rfl) (by assumption) ?_ ?_; rotate_left; (focus (intro w hSw; (try dsimp only at hSw); go_simp; (first | done | (with_reducible rfl)))); (try simp only [Act.put, List.setIfInBounds_toArray, List.set_cons_zero, List.set_cons_succ])
  refine tk_yes 30 (v := ?_) rfl (by kernel_rfl) (by kernel_rfl) (by kernel_rfl) (fun _ _ _ h => h) (by kernel_rfl) (by assumption) ?_ ?_; rotate_left; (focus (intro w hSw; (try dsimp only at hSw); go_simp; (first | done | (with_reducible rfl)))); (try simp only [Act.put, List.setIfInBounds_toArray, List.set_cons_zero, List.set_cons_succ])
  refine tk_call 29 rfl (by kernel_rfl) (by kernel_rfl) (fun KW hKW => ?_); go_simp; go_at_call 53; refine (KF.out _ (by repeat (first | exact Below.refl _ _ | assumption | refine bel_drew ?_ | refine bel_drewN ?_ _ | refine bel_alloc ?_ _ | refine bel_trans ?_ (by assumption)))).mono ?_; rintro e u29 ⟨rfl, hb29⟩; have B29 := bel_to (W0 := W2) (by repeat (first | exact Below.refl _ _ | assumption | refine bel_drew ?_ | refine bel_drewN ?_ _ | refine bel_alloc ?_ _ | refine bel_trans ?_ (by assumption))) hb29; have q := hS.out _ B29; clear hb29; refine hKW.out _ _ ?_ (fun hHeld => ?_); (focus ((try dsimp only); first | exact q | exact hS.out _ (by repeat (first | exact Below.refl _ _ | assumption | refine bel_drew ?_ | refine bel_drewN ?_ _ | refine bel_alloc ?_ _ | refine bel_trans ?_ (by assumption))))); clear hKW KW; (try simp only [Act.put, List.setIfInBounds_toArray, List.set_cons_zero, List.set_cons_succ])
  refine tk_call 31 rfl (by kernel_rfl) (by kernel_rfl) (fun KW hKW => ?_); go_simp; go_at_call 120; refine (KT.out _ (by repeat (first | exact Below.refl _ _ | assumption | refine bel_drew ?_ | refine bel_drewN ?_ _ | refine bel_alloc ?_ _ | refine bel_trans ?_ (by assumption)))).mono ?_; rintro e u31 ⟨rfl, hb31⟩; have B31 := bel_to (W0 := W2) (by repeat (first | exact Below.refl _ _ | assumption | refine bel_drew ?_ | refine bel_drewN ?_ _ | refine bel_alloc ?_ _ | refine bel_trans ?_ (by assumption))) hb31; have q := hS.out _ B31; clear hb31; refine hKW.out _ _ ?_ (fun hHeld => ?_); (focus ((try dsimp only); first | exact q | exact hS.out _ (by repeat (first | exact Below.refl _ _ | assumption | refine bel_drew ?_ | refine bel_drewN ?_ _ | refine bel_alloc ?_ _ | refine bel_trans ?_ (by assumption))))); clear hKW KW; (try simp only [Act.put, List.setIfInBounds_toArray, List.set_cons_zero, List.set_cons_succ])
  refine tk_yes 32 (v := ?_) rfl (by kernel_rfl) (by kernel_rfl) (by kernel_rfl) (fun _ _ _ h => h) (by kernel_rfl) (by assumption) ?_ ?_; rotate_left; (focus (intro w hSw; (try dsimp only at hSw); go_simp; (first | done | (with_reducible rfl)))); (try simp only [Act.put, List.setIfInBounds_toArray, List.set_cons_zero, List.set_cons_succ])
  refine tk_yes 33 (v := ?_) rfl (by kernel_rfl) (by kernel_rfl) (by kernel_rfl) (fun _ _ _ h => h) (by kernel_rfl) (by assumption) ?_ ?_; rotate_left; (focus (intro w hSw; (try dsimp only at hSw); go_simp; (first | done | (with_reducible rfl)))); (try simp only [Act.put, List.setIfInBounds_toArray, List.set_cons_zero, List.set_cons_succ])
  refine tk_yes 34 (v := ?_) rfl (by kernel_rfl) (by kernel_rfl) (by kernel_rfl) (fun _ _ _ h => h) (by kernel_rfl) (by assumption) ?_ ?_; rotate_left; (focus (intro w hSw; (try dsimp only at hSw); go_simp; (first | done | (with_reducible rfl)))); (try simp only [Act.put, List.setIfInBounds_toArray, List.set_cons_zero, List.set_cons_succ])
  refine tk_yes 35 (v := ?_) rfl (by kernel_rfl) (by kernel_rfl) (by kernel_rfl) (fun _ _ _ h => h) (by kernel_rfl) (by assumption) ?_ ?_; rotate_left; (focus (intro w hSw; (try dsimp only at hSw); go_simp; (first | done | (with_reducible rfl)))); (try simp only [Act.put, List.setIfInBounds_toArray, List.set_cons_zero, List.set_cons_succ])
  refine tk_yes 36 (v := ?_) rfl (by kernel_rfl) (by kernel_rfl) (by kernel_rfl) (fun _ _ _ h => h) (by kernel_rfl) (by assumption) ?_ ?_; rotate_left; (focus (intro w hSw; (try dsimp only at hSw); go_simp; (first | done | (with_reducible rfl)))); (try simp only [Act.put, List.setIfInBounds_toArray, List.set_cons_zero, List.set_cons_succ])
  refine tk_yes 38 (v := ?_) rfl (by kernel_rfl) (by kernel_rfl) (by kernel_rfl) (fun _ _ _ h => h) (by kernel_rfl) (by assumption) ?_ ?_; rotate_left; (focus (intro w hSw; (try dsimp only at hSw); go_simp; (first | done | (with_reducible rfl)))); (try simp only [Act.put, List.setIfInBounds_toArray, List.set_cons_zero, List.set_cons_succ])
  refine tk_yes 39 (v := ?_) rfl (by kernel_rfl) (by kernel_rfl) (by kernel_rfl) (fun _ _ _ h => h) (by kernel_rfl) (by assumption) ?_ ?_; rotate_left; (focus (intro w hSw; (try dsimp only at hSw); go_simp; (first | done | (with_reducible rfl)))); (try simp only [Act.put, List.setIfInBounds_toArray, List.set_cons_zero, List.set_cons_succ])
  refine tk_call 37 rfl (by kernel_rfl) (by kernel_rfl) (fun KW hKW => ?_); go_simp; go_at_call 54; refine (KN.out _ (by repeat (first | exact Below.refl _ _ | assumption | refine bel_drew ?_ | refine bel_drewN ?_ _ | refine bel_alloc ?_ _ | refine bel_trans ?_ (by assumption)))).mono ?_; rintro e u37 ⟨rfl, hb37⟩; have B37 := bel_to (W0 := W2) (by repeat (first | exact Below.refl _ _ | assumption | refine bel_drew ?_ | refine bel_drewN ?_ _ | refine bel_alloc ?_ _ | refine bel_trans ?_ (by assumption))) hb37; have q := hS.out _ B37; clear hb37; refine hKW.out _ _ ?_ (fun hHeld => ?_); (focus ((try dsimp only); first | exact q | exact hS.out _ (by repeat (first | exact Below.refl _ _ | assumption | refine bel_drew ?_ | refine bel_drewN ?_ _ | refine bel_alloc ?_ _ | refine bel_trans ?_ (by assumption))))); clear hKW KW; (try simp only [Act.put, List.setIfInBounds_toArray, List.set_cons_zero, List.set_cons_succ])
  refine tk_call 40 rfl (by kernel_rfl) (by kernel_rfl) (fun KW hKW => ?_); go_simp; go_at_call 121; refine (KM.out _ (by repeat (first | exact Below.refl _ _ | assumption | refine bel_drew ?_ | refine bel_drewN ?_ _ | refine bel_alloc ?_ _ | refine bel_trans ?_ (by assumption)))).mono ?_; rintro e u40 ⟨rfl, hb40⟩; have B40 := bel_to (W0 := W2) (by repeat (first | exact Below.refl _ _ | assumption | refine bel_drew ?_ | refine bel_drewN ?_ _ | refine bel_alloc ?_ _ | refine bel_trans ?_ (by assumption))) hb40; have q := hS.out _ B40; clear hb40; refine hKW.out _ _ ?_ (fun hHeld => ?_); (focus ((try dsimp only); first | exact q | exact hS.out _ (by repeat (first | exact Below.refl _ _ | assumption | refine bel_drew ?_ | refine bel_drewN ?_ _ | refine bel_alloc ?_ _ | refine bel_trans ?_ (by assumption))))); clear hKW KW; (try simp only [Act.put, List.setIfInBounds_toArray, List.set_cons_zero, List.set_cons_succ])
  refine tk_yes 41 (v := ?_) rfl (by kernel_rfl) (by kernel_rfl) (by kernel_rfl) (fun _ _ _ h => h) (by kernel_rfl) (by assumption) ?_ ?_; rotate_left; (focus (intro w hSw; (try dsimp only at hSw); go_simp; (first | done | (with_reducible rfl)))); (try simp only [Act.put, List.setIfInBounds_toArray, List.set_cons_zero, List.set_cons_succ])
  refine tk_yes 42 (v := ?_) rfl (by kernel_rfl) (by kernel_rfl) (by kernel_rfl) (fun _ _ _ h => h) (by kernel_rfl) (by assumption) ?_ ?_; rotate_left; (focus (intro w hSw; (try dsimp only at hSw); go_simp; (first | done | (with_reducible rfl)))); (try simp only [Act.put, List.setIfInBounds_toArray, List.set_cons_zero, List.set_cons_succ])
  refine tk_yes 43 (v := ?_) rfl (by kernel_rfl) (by kernel_rfl) (by kernel_rfl) (fun _ _ _ h => h) (by kernel_rfl) (by assumption) ?_ ?_; rotate_left; (focus (intro w hSw; (try dsimp only at hSw); go_simp; (first | done | (with_reducible rfl)))); (try simp only [Act.put, List.setIfInBounds_toArray, List.set_cons_zero, List.set_cons_succ])
  refine tk_yes 44 (v := ?_) rfl (by kernel_rfl) (by kernel_rfl) (by kernel_rfl) (fun _ _ _ h => h) (by kernel_rfl) (by assumption) ?_ ?_; rotate_left; (focus (intro w hSw; (try dsimp only at hSw); go_simp; (first | done | (with_reducible rfl)))); (try simp only [Act.put, List.setIfInBounds_toArray, List.set_cons_zero, List.set_cons_succ])
  refine tk_yes 45 (v := ?_) rfl (by kernel_rfl) (by kernel_rfl) (by kernel_rfl) (fun _ _ _ h => h) (by kernel_rfl) (by assumption) ?_ ?_; rotate_left; (focus (intro w hSw; (try dsimp only at hSw); go_simp; (first | done | (with_reducible rfl)))); (try simp only [Act.put, List.setIfInBounds_toArray, List.set_cons_zero, List.set_cons_succ])
  refine tk_yes 47 (v := ?_) rfl (by kernel_rfl) (by kernel_rfl) (by kernel_rfl) (fun _ _ _ h => h) (by kernel_rfl) (by assumption) ?_ ?_; rotate_left; (focus (intro w hSw; (try dsimp only at hSw); go_simp; (first | done | (with_reducible rfl)))); (try simp only [Act.put, List.setIfInBounds_toArray, List.set_cons_zero, List.set_cons_succ])
  refine tk_call 46 rfl (by kernel_rfl) (by kernel_rfl) (fun KW hKW => ?_); go_simp; go_at_call 51; refine (KC.out _ (by repeat (first | exact Below.refl _ _ | assumption | refine bel_drew ?_ | refine bel_drewN ?_ _ | refine bel_alloc ?_ _ | refine bel_trans ?_ (by assumption)))).mono ?_; rintro e u46 ⟨A46, n46, c46, rfl, i46, hb46⟩; have I46 := Lib.hid i46.1; have B46 := bel_to (W0 := W2) (by repeat (first | exact Below.refl _ _ | assumption | refine bel_drew ?_ | refine bel_drewN ?_ _ | refine bel_alloc ?_ _ | refine bel_trans ?_ (by assumption))) hb46; have q := hS.out _ B46; clear hb46 i46; refine hKW.out _ _ ?_ (fun hHeld => ?_); (focus ((try dsimp only); first | exact q | exact hS.out _ (by repeat (first | exact Below.refl _ _ | assumption | refine bel_drew ?_ | refine bel_drewN ?_ _ | refine bel_alloc ?_ _ | refine bel_trans ?_ (by assumption))))); clear hKW KW; (try simp only [Act.put, List.setIfInBounds_toArray, List.set_cons_zero, List.set_cons_succ])
  refine tk_call 48 rfl (by kernel_rfl) (by kernel_rfl) (fun KW hKW => ?_); go_simp; go_at_call 45; refine (base_SameInts c46 ck I46.out (KK.out _ (by repeat (first | exact Below.refl _ _ | assumption | refine bel_drew ?_ | refine bel_drewN ?_ _ | refine bel_alloc ?_ _ | refine bel_trans ?_ (by assumption))))).mono ?_; rw [decide_eq_true rfl]; rintro e u48 ⟨rfl, hb48⟩; have B48 := bel_to (W0 := W2) (by repeat (first | exact Below.refl _ _ | assumption | refine bel_drew ?_ | refine bel_drewN ?_ _ | refine bel_alloc ?_ _ | refine bel_trans ?_ (by assumption))) hb48; have q := hS.out _ B48; clear hb48; refine hKW.out _ _ ?_ (fun hHeld => ?_); (focus ((try dsimp only); first | exact q | exact hS.out _ (by repeat (first | exact Below.refl _ _ | assumption | refine bel_drew ?_ | refine bel_drewN ?_ _ | refine bel_alloc ?_ _ | refine bel_trans ?_ (by assumption))))); clear hKW KW; (try simp only [Act.put, List.setIfInBounds_toArray, List.set_cons_zero, List.set_cons_succ])
  refine tk_yes 49 (v := ?_) rfl (by kernel_rfl) (by kernel_rfl) (by kernel_rfl) (fun _ _ _ h => h) (by kernel_rfl) (by assumption) ?_ ?_; rotate_left; (focus (intro w hSw; (try dsimp only at hSw); go_simp; (first | done | (with_reducible rfl)))); (try simp only [Act.put, List.setIfInBounds_toArray, List.set_cons_zero, List.set_cons_succ])
  refine tk_yes 50 (v := ?_) rfl (by kernel_rfl) (by kernel_rfl) (by kernel_rfl) (fun _ _ _ h => h) (by kernel_rfl) (by assumption) ?_ ?_; rotate_left; (focus (intro w hSw; (try dsimp only at hSw); go_simp; (first | done | (with_reducible rfl)))); (try simp only [Act.put, List.setIfInBounds_toArray, List.set_cons_zero, List.set_cons_succ])
  refine wpAnyH_done (by kernel_rfl) ?_ _
  go_wp2_with fail
  go_ret
  exact ⟨rfl, bel_trans BW.out B48⟩
set_option maxRecDepth 100000 in
set_option maxHeartbeats 8000000 in
theorem law37_same_no (x y : Int) (hx : BdI x) (hin : PC.place N x = -1) (h : ForestOver wa w own Fb n S) (hr : RefF P w V n S.g S.O S.cl S.fr N S.up) (rel : NRel n S N) (hN : N.length ≤ 4096) :
    Calls Try.prog 43 #[.pointer (some ⟨Fb, 0, none⟩), V, .int .i64 x, .int .i64 y] w fun e w' => e = .returned (.bool true) ∧ Below w.heap.size w w' := by
  have hi := h.fi
  have hO : ∀ p ∈ S.O, p < n := fun p hp => hi.lt hp
  have eis := rel.is x
  have eup := rel.up x
  have ekid := rel.kids hi x
  have enext := rel.next hi x
  have hh := hr
  obtain ⟨Ao, co, Ag, cg, Ac, cc, An, cn, Ap, cp, rfl, h1, h2, h3⟩ := hr
  obtain ⟨m, hml⟩ : ∃ m, S.cl.length = m := ⟨_, rfl⟩
  obtain ⟨fr, hfr⟩ : ∃ f, S.fr = f := ⟨_, rfl⟩
  rw [hml, hfr] at hh h1
  rw [hml, hfr]
  obtain ⟨w0, hw0⟩ : ∃ w0, w.alloc (.cells #[.slice Ao n co, .slice Ag n cg, .slice Ac m cc, .int .i64 (fr : Int), .slice An N.length cn, .slice Ap N.length cp] 58) = w0 := ⟨_, rfl⟩
  have r0 : RowAt w0 w.heap.size 58 [.slice Ao n co, .slice Ag n cg, .slice Ac m cc, .int .i64 (fr : Int), .slice An N.length cn, .slice Ap N.length cp] := by rw [← hw0]; exact RowAt.new w 58 _
  have b0 : Below w.heap.size w w0 := by rw [← hw0]; exact (by repeat (first | exact Below.refl _ _ | assumption | refine bel_drew ?_ | refine bel_drewN ?_ _ | refine bel_alloc ?_ _ | refine bel_set ?_ (by first | (dsimp only; omega) | (simp; done) | (simp; omega)) _ | refine bel_trans ?_ (by assumption)))
  have c4 : w0.cell? ⟨w.heap.size, 4, none⟩ = some (.slice An N.length cn) := by rw [r0.cell]; rfl
  have c5 : w0.cell? ⟨w.heap.size, 5, none⟩ = some (.slice Ap N.length cp) := by rw [r0.cell]; rfl
  have hlt0 : w.heap.size < w0.heap.size := by rw [← hw0]; simp
  have HW0 := Lib.hid hw0
  have H := Lib.hid (h.keep b0)
  have HR := Lib.hid (hh.keep b0)
  have H1 := Lib.hid (h1.keep b0)
  have B0 := Lib.hid b0
  have ekid2 : [] = kidV S.O S.R x := by rw [if_neg (by omega)] at ekid; exact ekid
  have eb : decide (x ∈ ints S.O) = false := by rw [← eis]; exact decide_eq_false (by omega)
  obtain ⟨k, hk⟩ : ∃ k, PC.place N x = k := ⟨_, rfl⟩
  rw [hk] at hin
  have KA : Hid (∀ W, Below w0.heap.size w0 W → Calls Try.prog 110 #[.agg #[.slice Ao n co, .slice Ag n cg, .slice Ac m cc, .int .i64 (fr : Int), .slice An N.length cn, .slice Ap N.length cp], .int .i64 x] W fun e w' => e = .returned (.int .i64 k) ∧ Below W.heap.size W w') := Lib.hid (fun W hW => by
    have := ref37_At x (HR.out.keep hW)
    rwa [hk] at this)
  have KI : Hid (∀ W, Below w0.heap.size w0 W → Calls Try.prog 48 #[.pointer (some ⟨Fb, 0, none⟩), .int .i64 x] W fun e w' => e = .returned (.bool false) ∧ Below W.heap.size W w') := Lib.hid (fun W hW => by
    have := to_bel (overf_Is x (H.out.keep hW))
    rwa [eb] at this)
  obtain ⟨rb, hrb⟩ : ∃ b, rightB S.O S.g x y = b := ⟨_, rfl⟩
  have KR : Hid (∀ W, Below w0.heap.size w0 W → Calls Try.prog 52 #[.pointer (some ⟨Fb, 0, none⟩), .int .i64 x, .int .i64 y] W fun e w' => e = .returned (.bool rb) ∧ Below W.heap.size W w') := Lib.hid (fun W hW => by
    have := overf_Right x y hx (H.out.keep hW)
    rwa [hrb] at this)
  have KQ : Hid (∀ W, Below w0.heap.size w0 W → Calls Try.prog 118 #[.agg #[.slice Ao n co, .slice Ag n cg, .slice Ac m cc, .int .i64 (fr : Int)], .int .i64 x, .int .i64 y] W fun e w' => e = .returned (.bool rb) ∧ Below W.heap.size W w') := Lib.hid (fun W hW => by
    have := ref06_Right x y (H1.out.keep hW) hO
    rwa [hrb] at this)
  obtain ⟨pv, hpv⟩ : ∃ b, parV S.O S.up x = b := ⟨_, rfl⟩
  have KP : Hid (∀ W, Below w0.heap.size w0 W → Calls Try.prog 49 #[.pointer (some ⟨Fb, 0, none⟩), .int .i64 x] W fun e w' => e = .returned (.int .i64 pv) ∧ Below W.heap.size W w') := Lib.hid (fun W hW => by
    have := to_bel (overf_Parent x (H.out.keep hW))
    rwa [hpv] at this)
  have KU : Hid (∀ W, Below w0.heap.size w0 W → Calls Try.prog 119 #[.agg #[.slice Ao n co, .slice Ag n cg, .slice Ac m cc, .int .i64 (fr : Int), .slice An N.length cn, .slice Ap N.length cp], .int .i64 x] W fun e w' => e = .returned (.int .i64 pv) ∧ Below W.heap.size W w') := Lib.hid (fun W hW => by
    have := ref37_Up x (HR.out.keep hW)
    rwa [eup, hpv] at this)
  obtain ⟨fv, hfv⟩ : ∃ b, PC.headD (kidV S.O S.R x) = b := ⟨_, rfl⟩
  have KF : Hid (∀ W, Below w0.heap.size w0 W → Calls Try.prog 53 #[.pointer (some ⟨Fb, 0, none⟩), .int .i64 x] W fun e w' => e = .returned (.int .i64 fv) ∧ Below W.heap.size W w') := Lib.hid (fun W hW => by
    have := to_bel (overf_First x (H.out.keep hW))
    rwa [hfv] at this)
  obtain ⟨nv, hnv⟩ : ∃ b, PC.nextV (n + 1) S.R x = b := ⟨_, rfl⟩
  have KN : Hid (∀ W, Below w0.heap.size w0 W → Calls Try.prog 54 #[.pointer (some ⟨Fb, 0, none⟩), .int .i64 x] W fun e w' => e = .returned (.int .i64 nv) ∧ Below W.heap.size W w') := Lib.hid (fun W hW => by
    have := to_bel (overf_Next x (H.out.keep hW))
    rwa [hnv] at this)
  have KM : Hid (∀ W, Below w0.heap.size w0 W → Calls Try.prog 121 #[.agg #[.slice Ao n co, .slice Ag n cg, .slice Ac m cc, .int .i64 (fr : Int), .slice An N.length cn, .slice Ap N.length cp], .int .i64 x] W fun e w' => e = .returned (.int .i64 nv) ∧ Below W.heap.size W w') := Lib.hid (fun W hW => by
    have := ref37_Next x (by omega) (HR.out.keep hW)
    rwa [enext, hnv] at this)
  have KC : Hid (∀ W, Below w0.heap.size w0 W → Calls Try.prog 51 #[.pointer (some ⟨Fb, 0, none⟩), .int .i64 x] W (GivesInts W (ints (kidV S.O S.R x)))) := Lib.hid (fun W hW => overf_Children x (H.out.keep hW))
  have hS : Hid (∀ W : World, Below w0.heap.size w0 W → (fun W : World => W.cell? ⟨w.heap.size, 0, none⟩ = some (.slice Ao n co) ∧ W.cell? ⟨w.heap.size, 1, none⟩ = some (.slice Ag n cg) ∧ W.cell? ⟨w.heap.size, 2, none⟩ = some (.slice Ac m cc) ∧ W.cell? ⟨w.heap.size, 3, none⟩ = some (.int .i64 (fr : Int)) ∧ W.cell? ⟨w.heap.size, 4, none⟩ = some (.slice An N.length cn) ∧ W.cell? ⟨w.heap.size, 5, none⟩ = some (.slice Ap N.length cp)) W) := Lib.hid (fun W hW => ⟨(hW.cell (p := ⟨w.heap.size, 0, none⟩) hlt0).trans ((r0.cell 0).trans rfl), (hW.cell (p := ⟨w.heap.size, 1, none⟩) hlt0).trans ((r0.cell 1).trans rfl), (hW.cell (p := ⟨w.heap.size, 2, none⟩) hlt0).trans ((r0.cell 2).trans rfl), (hW.cell (p := ⟨w.heap.size, 3, none⟩) hlt0).trans ((r0.cell 3).trans rfl), (hW.cell (p := ⟨w.heap.size, 4, none⟩) hlt0).trans ((r0.cell 4).trans rfl), (hW.cell (p := ⟨w.heap.size, 5, none⟩) hlt0).trans ((r0.cell 5).trans rfl)⟩)
  have HF := Lib.hid hfv
  have HKD := Lib.hid ekid2
  have j1 : decide (k < (0 : Int)) = true := decide_eq_true (by omega)
  have j2 : decide ((0 : Int) ≤ k) = false := decide_eq_false (by omega)
  have j3 : ¬ (0 : Int) ≤ k := by omega
  clear h hh h1 h2 h3 rel hi hO eis eup ekid ekid2 enext hml hfr b0 hw0 hx hin hk eb hrb hpv hfv hnv hN
  go_enter Try.func43, Try.ntmps43
  go_upto_region 1 with (fail)
  rw [HW0.out]
  have c0 := (hS.out _ (Below.refl _ _)).1
  have c1 := (hS.out _ (Below.refl _ _)).2.1
  have c2 := (hS.out _ (Below.refl _ _)).2.2.1
  have c3 := (hS.out _ (Below.refl _ _)).2.2.2.1
  go_wp2_with fail
  refine (KA.out _ (Below.refl _ _)).mono ?_
  rintro e w1 ⟨rfl, b1⟩
  have q := hS.out _ b1
  obtain ⟨d0, d1, d2, d3, d4, d5⟩ := q
  clear c0 c1 c2 c3 c4 c5
  have B2 := b1
  obtain ⟨w2, hw2⟩ : ∃ w2, w1 = w2 := ⟨_, rfl⟩
  subst hw2
  have KK0 : IntsAt w1 none 0 (ints (kidV S.O S.R x)) := by rw [← HKD.out]; exact IntsAt.nil
  clear d0 d1 d2 d3 d4 d5
  go_upto_region 5 with (fail)
  refine region_name ?_
  rintro W2 hW2
  have b22 : Below w1.heap.size w1 W2 := by rw [hW2]; exact (by repeat (first | exact Below.refl _ _ | assumption | refine bel_drew ?_ | refine bel_drewN ?_ _ | refine bel_alloc ?_ _ | refine bel_set ?_ (by first | (dsimp only; omega) | (simp; done) | (simp; omega)) _ | refine bel_trans ?_ (by assumption)))
  have KK1 := KK0.keep b22
  have B22 := bel_to (W0 := w0) B2 b22
  have KK : Hid (∀ W, Below W2.heap.size W2 W → IntsAt W none 0 (ints (kidV S.O S.R x))) := Lib.hid (fun W hW => KK1.keep hW)
  have KT : Hid (∀ W, Below W2.heap.size W2 W → Calls Try.prog 120 #[.slice none 0 0] W fun e w' => e = .returned (.int .i64 fv) ∧ Below W.heap.size W w') := Lib.hid (fun W hW => by
    have := to_bel (law37_first 0 (KK.out W hW))
    rwa [HF.out] at this)
  have BW := Lib.hid (bel_trans B0.out B22)
  replace hS : Hid (∀ W : World, Below W2.heap.size W2 W → _) := Lib.hid (fun W hW => hS.out W (bel_trans B22 hW))
  replace KI : Hid (∀ W : World, Below W2.heap.size W2 W → _) := Lib.hid (fun W hW => KI.out W (bel_trans B22 hW))
  replace KR : Hid (∀ W : World, Below W2.heap.size W2 W → _) := Lib.hid (fun W hW => KR.out W (bel_trans B22 hW))
  replace KQ : Hid (∀ W : World, Below W2.heap.size W2 W → _) := Lib.hid (fun W hW => KQ.out W (bel_trans B22 hW))
  replace KP : Hid (∀ W : World, Below W2.heap.size W2 W → _) := Lib.hid (fun W hW => KP.out W (bel_trans B22 hW))
  replace KU : Hid (∀ W : World, Below W2.heap.size W2 W → _) := Lib.hid (fun W hW => KU.out W (bel_trans B22 hW))
  replace KF : Hid (∀ W : World, Below W2.heap.size W2 W → _) := Lib.hid (fun W hW => KF.out W (bel_trans B22 hW))
  replace KN : Hid (∀ W : World, Below W2.heap.size W2 W → _) := Lib.hid (fun W hW => KN.out W (bel_trans B22 hW))
  replace KM : Hid (∀ W : World, Below W2.heap.size W2 W → _) := Lib.hid (fun W hW => KM.out W (bel_trans B22 hW))
  replace KC : Hid (∀ W : World, Below W2.heap.size W2 W → _) := Lib.hid (fun W hW => KC.out W (bel_trans B22 hW))
  clear hW2 b22 KK1 KK0 B22 B2 b1 hlt0 r0
  refine wp_region_held_drew (S := (fun W : World => W.cell? ⟨w.heap.size, 0, none⟩ = some (.slice Ao n co) ∧ W.cell? ⟨w.heap.size, 1, none⟩ = some (.slice Ag n cg) ∧ W.cell? ⟨w.heap.size, 2, none⟩ = some (.slice Ac m cc) ∧ W.cell? ⟨w.heap.size, 3, none⟩ = some (.int .i64 (fr : Int)) ∧ W.cell? ⟨w.heap.size, 4, none⟩ = some (.slice An N.length cn) ∧ W.cell? ⟨w.heap.size, 5, none⟩ = some (.slice Ap N.length cp))) (by kernel_rfl) ?_ (fun hHeld => ?_)
  focus ((try dsimp only); first | exact q | exact hS.out _ (by repeat (first | exact Below.refl _ _ | assumption | refine bel_drew ?_ | refine bel_drewN ?_ _ | refine bel_alloc ?_ _ | refine bel_trans ?_ (by assumption))))
  refine tk_yes 0 (v := ?_) rfl (by kernel_rfl) (by kernel_rfl) (by kernel_rfl) (fun _ _ _ h => h) (by kernel_rfl) (by assumption) ?_ ?_; rotate_left; (focus (intro w hSw; (try dsimp only at hSw); go_simp; (first | done | (with_reducible rfl)))); (try simp only [Act.put, List.setIfInBounds_toArray, List.set_cons_zero, List.set_cons_succ])
  refine tk_yes 1 (v := ?_) rfl (by kernel_rfl) (by kernel_rfl) (by kernel_rfl) (fun _ _ _ h => h) (by kernel_rfl) (by assumption) ?_ ?_; rotate_left; (focus (intro w hSw; (try dsimp only at hSw); go_simp; (first | done | (with_reducible rfl)))); (try simp only [Act.put, List.setIfInBounds_toArray, List.set_cons_zero, List.set_cons_succ])
  refine tk_yes 3 (v := ?_) rfl (by kernel_rfl) (by kernel_rfl) (by kernel_rfl) (fun _ _ _ h => h) (by kernel_rfl) (by assumption) ?_ ?_; rotate_left; (focus (intro w hSw; (try dsimp only at hSw); go_simp; (first | done | (with_reducible rfl)))); (try simp only [Act.put, List.setIfInBounds_toArray, List.set_cons_zero, List.set_cons_succ])
  refine tk_call 2 rfl (by kernel_rfl) (by kernel_rfl) (fun KW hKW => ?_); go_simp; go_at_call 48; refine (KI.out _ (by repeat (first | exact Below.refl _ _ | assumption | refine bel_drew ?_ | refine bel_drewN ?_ _ | refine bel_alloc ?_ _ | refine bel_trans ?_ (by assumption)))).mono ?_; rintro e u2 ⟨rfl, hb2⟩; have B2 := bel_to (W0 := W2) (by repeat (first | exact Below.refl _ _ | assumption | refine bel_drew ?_ | refine bel_drewN ?_ _ | refine bel_alloc ?_ _ | refine bel_trans ?_ (by assumption))) hb2; have q := hS.out _ B2; clear hb2; refine hKW.out _ _ ?_ (fun hHeld => ?_); (focus ((try dsimp only); first | exact q | exact hS.out _ (by repeat (first | exact Below.refl _ _ | assumption | refine bel_drew ?_ | refine bel_drewN ?_ _ | refine bel_alloc ?_ _ | refine bel_trans ?_ (by assumption))))); clear hKW KW; (try simp only [Act.put, List.setIfInBounds_toArray, List.set_cons_zero, List.set_cons_succ])
  refine tk_yes 4 (v := ?_) rfl (by kernel_rfl) (by kernel_rfl) (by kernel_rfl) (fun _ _ _ h => h) (by kernel_rfl) (by assumption) ?_ ?_; rotate_left; (focus (intro w hSw; (try dsimp only at hSw); go_simp; (first | done | (with_reducible rfl)))); (try simp only [Act.put, List.setIfInBounds_toArray, List.set_cons_zero, List.set_cons_succ])
  refine tk_yes 5 (v := ?_) rfl (by kernel_rfl) (by kernel_rfl) (by kernel_rfl) (fun _ _ _ h => h) (by kernel_rfl) (by assumption) ?_ ?_; rotate_left; (focus (intro w hSw; (try dsimp only at hSw); go_simp; (first | done | (with_reducible rfl)))); (try simp only [Act.put, List.setIfInBounds_toArray, List.set_cons_zero, List.set_cons_succ])
  refine tk_yes 6 (v := ?_) rfl (by kernel_rfl) (by kernel_rfl) (by kernel_rfl) (fun _ _ _ h => h) (by kernel_rfl) (by assumption) ?_ ?_; rotate_left; (focus (intro w hSw; (try dsimp only at hSw); go_simp; (first | done | (with_reducible rfl)))); (try simp only [Act.put, List.setIfInBounds_toArray, List.set_cons_zero, List.set_cons_succ])
  refine tk_yes 7 (v := ?_) rfl (by kernel_rfl) (by kernel_rfl) (by kernel_rfl) (fun _ _ _ h => h) (by kernel_rfl) (by assumption) ?_ ?_; rotate_left; (focus (intro w hSw; (try dsimp only at hSw); go_simp; (first | done | (with_reducible rfl)))); (try simp only [Act.put, List.setIfInBounds_toArray, List.set_cons_zero, List.set_cons_succ])
  refine tk_yes 8 (v := ?_) rfl (by kernel_rfl) (by kernel_rfl) (by kernel_rfl) (fun _ _ _ h => h) (by kernel_rfl) (by assumption) ?_ ?_; rotate_left; (focus (intro w hSw; (try dsimp only at hSw); go_simp; (first | done | (with_reducible rfl)))); (try simp only [Act.put, List.setIfInBounds_toArray, List.set_cons_zero, List.set_cons_succ])
  refine tk_yes 10 (v := ?_) rfl (by kernel_rfl) (by kernel_rfl) (by kernel_rfl) (fun _ _ _ h => h) (by kernel_rfl) (by assumption) ?_ ?_; rotate_left; (focus (intro w hSw; (try dsimp only at hSw); go_simp; (first | done | (with_reducible rfl)))); (try simp only [Act.put, List.setIfInBounds_toArray, List.set_cons_zero, List.set_cons_succ])
  refine tk_yes 11 (v := ?_) rfl (by kernel_rfl) (by kernel_rfl) (by kernel_rfl) (fun _ _ _ h => h) (by kernel_rfl) (by assumption) ?_ ?_; rotate_left; (focus (intro w hSw; (try dsimp only at hSw); go_simp; (first | done | (with_reducible rfl)))); (try simp only [Act.put, List.setIfInBounds_toArray, List.set_cons_zero, List.set_cons_succ])
  refine tk_yes 12 (v := ?_) rfl (by kernel_rfl) (by kernel_rfl) (by kernel_rfl) (fun _ _ _ h => h) (by kernel_rfl) (by assumption) ?_ ?_; rotate_left; (focus (intro w hSw; (try dsimp only at hSw); go_simp; (first | done | (with_reducible rfl)))); (try simp only [Act.put, List.setIfInBounds_toArray, List.set_cons_zero, List.set_cons_succ])
  refine tk_yes 13 (v := ?_) rfl (by kernel_rfl) (by kernel_rfl) (by kernel_rfl) (fun _ _ _ h => h) (by kernel_rfl) (by assumption) ?_ ?_; rotate_left; (focus (intro w hSw; (try dsimp only at hSw); go_simp; (first | done | (with_reducible rfl)))); (try simp only [Act.put, List.setIfInBounds_toArray, List.set_cons_zero, List.set_cons_succ])
  refine tk_call 9 rfl (by kernel_rfl) (by kernel_rfl) (fun KW hKW => ?_); go_simp; go_at_call 52; refine (KR.out _ (by repeat (first | exact Below.refl _ _ | assumption | refine bel_drew ?_ | refine bel_drewN ?_ _ | refine bel_alloc ?_ _ | refine bel_trans ?_ (by assumption)))).mono ?_; rintro e u9 ⟨rfl, hb9⟩; have B9 := bel_to (W0 := W2) (by repeat (first | exact Below.refl _ _ | assumption | refine bel_drew ?_ | refine bel_drewN ?_ _ | refine bel_alloc ?_ _ | refine bel_trans ?_ (by assumption))) hb9; have q := hS.out _ B9; clear hb9; refine hKW.out _ _ ?_ (fun hHeld => ?_); (focus ((try dsimp only); first | exact q | exact hS.out _ (by repeat (first | exact Below.refl _ _ | assumption | refine bel_drew ?_ | refine bel_drewN ?_ _ | refine bel_alloc ?_ _ | refine bel_trans ?_ (by assumption))))); clear hKW KW; (try simp only [Act.put, List.setIfInBounds_toArray, List.set_cons_zero, List.set_cons_succ])
  refine tk_call 14 rfl (by kernel_rfl) (by kernel_rfl) (fun KW hKW => ?_); go_simp; go_at_call 118; refine (KQ.out _ (by repeat (first | exact Below.refl _ _ | assumption | refine bel_drew ?_ | refine bel_drewN ?_ _ | refine bel_alloc ?_ _ | refine bel_trans ?_ (by assumption)))).mono ?_; rintro e u14 ⟨rfl, hb14⟩; have B14 := bel_to (W0 := W2) (by repeat (first | exact Below.refl _ _ | assumption | refine bel_drew ?_ | refine bel_drewN ?_ _ | refine bel_alloc ?_ _ | refine bel_trans ?_ (by assumption))) hb14; have q := hS.out _ B14; clear hb14; refine hKW.out _ _ ?_ (fun hHeld => ?_); (focus ((try dsimp only); first | exact q | exact hS.out _ (by repeat (first | exact Below.refl _ _ | assumption | refine bel_drew ?_ | refine bel_drewN ?_ _ | refine bel_alloc ?_ _ | refine bel_trans ?_ (by assumption))))); clear hKW KW; (try simp only [Act.put, List.setIfInBounds_toArray, List.set_cons_zero, List.set_cons_succ])
  refine tk_yes 15 (v := ?_) rfl (by kernel_rfl) (by kernel_rfl) (by kernel_rfl) (fun _ _ _ h => h) (by kernel_rfl) (by assumption) ?_ ?_; rotate_left; (focus (intro w hSw; (try dsimp only at hSw); go_simp; (first | done | (with_reducible rfl)))); (try simp only [Act.put, List.setIfInBounds_toArray, List.set_cons_zero, List.set_cons_succ])
  refine tk_yes 16 (v := ?_) rfl (by kernel_rfl) (by kernel_rfl) (by kernel_rfl) (fun _ _ _ h => h) (by kernel_rfl) (by assumption) ?_ ?_; rotate_left; (focus (intro w hSw; (try dsimp only at hSw); go_simp; (first | done | (with_reducible rfl)))); (try simp only [Act.put, List.setIfInBounds_toArray, List.set_cons_zero, List.set_cons_succ])
  refine tk_yes 17 (v := ?_) rfl (by kernel_rfl) (by kernel_rfl) (by kernel_rfl) (fun _ _ _ h => h) (by kernel_rfl) (by assumption) ?_ ?_; rotate_left; (focus (intro w hSw; (try dsimp only at hSw); go_simp; (first | done | (with_reducible rfl)))); (try simp only [Act.put, List.setIfInBounds_toArray, List.set_cons_zero, List.set_cons_succ])
  refine tk_yes 18 (v := ?_) rfl (by kernel_rfl) (by kernel_rfl) (by kernel_rfl) (fun _ _ _ h => h) (by kernel_rfl) (by assumption) ?_ ?_; rotate_left; (focus (intro w hSw; (try dsimp only at hSw); go_simp; (first | done | (with_reducible rfl)))); (try simp only [Act.put, List.setIfInBounds_toArray, List.set_cons_zero, List.set_cons_succ])
  refine tk_yes 19 (v := ?_) rfl (by kernel_rfl) (by kernel_rfl) (by kernel_rfl) (fun _ _ _ h => h) (by kernel_rfl) (by assumption) ?_ ?_; rotate_left; (focus (intro w hSw; (try dsimp only at hSw); go_simp; (first | done | (with_reducible rfl)))); (try simp only [Act.put, List.setIfInBounds_toArray, List.set_cons_zero, List.set_cons_succ])
  refine tk_yes 21 (v := ?_) rfl (by kernel_rfl) (by kernel_rfl) (by kernel_rfl) (fun _ _ _ h => h) (by kernel_rfl) (by assumption) ?_ ?_; rotate_left; (focus (intro w hSw; (try dsimp only at hSw); go_simp; (first | done | (with_reducible rfl)))); (try simp only [Act.put, List.setIfInBounds_toArray, List.set_cons_zero, List.set_cons_succ])
  refine tk_yes 22 (v := ?_) rfl (by kernel_rfl) (by kernel_rfl) (by kernel_rfl) (fun _ _ _ h => h) (by kernel_rfl) (by assumption) ?_ ?_; rotate_left; (focus (intro w hSw; (try dsimp only at hSw); go_simp; (first | done | (with_reducible rfl)))); (try simp only [Act.put, List.setIfInBounds_toArray, List.set_cons_zero, List.set_cons_succ])
  refine tk_call 20 rfl (by kernel_rfl) (by kernel_rfl) (fun KW hKW => ?_); go_simp; go_at_call 49; refine (KP.out _ (by repeat (first | exact Below.refl _ _ | assumption | refine bel_drew ?_ | refine bel_drewN ?_ _ | refine bel_alloc ?_ _ | refine bel_trans ?_ (by assumption)))).mono ?_; rintro e u20 ⟨rfl, hb20⟩; have B20 := bel_to (W0 := W2) (by repeat (first | exact Below.refl _ _ | assumption | refine bel_drew ?_ | refine bel_drewN ?_ _ | refine bel_alloc ?_ _ | refine bel_trans ?_ (by assumption))) hb20; have q := hS.out _ B20; clear hb20; refine hKW.out _ _ ?_ (fun hHeld => ?_); (focus ((try dsimp only); first | exact q | exact hS.out _ (by repeat (first | exact Below.refl _ _ | assumption | refine bel_drew ?_ | refine bel_drewN ?_ _ | refine bel_alloc ?_ _ | refine bel_trans ?_ (by assumption))))); clear hKW KW; (try simp only [Act.put, List.setIfInBounds_toArray, List.set_cons_zero, List.set_cons_succ])
  refine tk_call 23 rfl (by kernel_rfl) (by kernel_rfl) (fun KW hKW => ?_); go_simp; go_at_call 119; refine (KU.out _ (by repeat (first | exact Below.refl _ _ | assumption | refine bel_drew ?_ | refine bel_drewN ?_ _ | refine bel_alloc ?_ _ | refine bel_trans ?_ (by assumption)))).mono ?_; rintro e u23 ⟨rfl, hb23⟩; have B23 := bel_to (W0 := W2) (by repeat (first | exact Below.refl _ _ | assumption | refine bel_drew ?_ | refine bel_drewN ?_ _ | refine bel_alloc ?_ _ | refine bel_trans ?_ (by assumption))) hb23; have q := hS.out _ B23; clear hb23; refine hKW.out _ _ ?_ (fun hHeld => ?_); (focus ((try dsimp only); first | exact q | exact hS.out _ (by repeat (first | exact Below.refl _ _ | assumption | refine bel_drew ?_ | refine bel_drewN ?_ _ | refine bel_alloc ?_ _ | refine bel_trans ?_ (by assumption))))); clear hKW KW; (try simp only [Act.put, List.setIfInBounds_toArray, List.set_cons_zero, List.set_cons_succ])
  refine tk_yes 24 (v := ?_) rfl (by kernel_rfl) (by kernel_rfl) (by kernel_rfl) (fun _ _ _ h => h) (by kernel_rfl) (by assumption) ?_ ?_; rotate_left; (focus (intro w hSw; (try dsimp only at hSw); go_simp; (first | done | (with_reducible rfl)))); (try simp only [Act.put, List.setIfInBounds_toArray, List.set_cons_zero, List.set_cons_succ])
  refine tk_yes 25 (v := ?_) rfl (by kernel_rfl) (by kernel_rfl) (by kernel_rfl) (fun _ _ _ h => h) (by kernel_rfl) (by assumption) ?_ ?_; rotate_left; (focus (intro w hSw; (try dsimp only at hSw); go_simp; (first | done | (with_reducible rfl)))); (try simp only [Act.put, List.setIfInBounds_toArray, List.set_cons_zero, List.set_cons_succ])
  refine tk_yes 26 (v := ?_) rfl (by kernel_rfl) (by kernel_rfl) (by kernel_rfl) (fun _ _ _ h => h) (by kernel_rfl) (by assumption) ?_ ?_; rotate_left; (focus (intro w hSw; (try dsimp only at hSw); go_simp; (first | done | (with_reducible rfl)))); (try simp only [Act.put, List.setIfInBounds_toArray, List.set_cons_zero, List.set_cons_succ])
  refine tk_yes 27 (v := ?_) rfl (by kernel_rfl) (by kernel_rfl) (by kernel_rfl) (fun _ _ _ h => h) (by kernel_rfl) (by assumption) ?_ ?_; rotate_left; (focus (intro w hSw; (try dsimp only at hSw); go_simp; (first | done | (with_reducible rfl)))); (try simp only [Act.put, List.setIfInBounds_toArray, List.set_cons_zero, List.set_cons_succ])
  refine tk_yes 28 (v := ?_) rfl (by kernel_rfl) (by kernel_rfl) (by kernel_rfl) (fun _ _ _ h => h) (by kernel_rfl) (by assumption) ?_ ?_; rotate_left; (focus (intro w hSw; (try dsimp only at hSw); go_simp; (first | done | (with_reducible rfl)))); (try simp only [Act.put, List.setIfInBounds_toArray, List.set_cons_zero, List.set_cons_succ])
  refine tk_yes 30 (v := ?_) rfl (by kernel_rfl) (by kernel_rfl) (by kernel_rfl) (fun _ _ _ h => h) (by kernel_rfl) (by assumption) ?_ ?_; rotate_left; (focus (intro w hSw; (try dsimp only at hSw); go_simp; (first | done | (with_reducible rfl)))); (try simp only [Act.put, List.setIfInBounds_toArray, List.set_cons_zero, List.set_cons_succ])
  refine tk_call 29 rfl (by kernel_rfl) (by kernel_rfl) (fun KW hKW => ?_); go_simp; go_at_call 53; refine (KF.out _ (by repeat (first | exact Below.refl _ _ | assumption | refine bel_drew ?_ | refine bel_drewN ?_ _ | refine bel_alloc ?_ _ | refine bel_trans ?_ (by assumption)))).mono ?_; rintro e u29 ⟨rfl, hb29⟩; have B29 := bel_to (W0 := W2) (by repeat (first | exact Below.refl _ _ | assumption | refine bel_drew ?_ | refine bel_drewN ?_ _ | refine bel_alloc ?_ _ | refine bel_trans ?_ (by assumption))) hb29; have q := hS.out _ B29; clear hb29; refine hKW.out _ _ ?_ (fun hHeld => ?_); (focus ((try dsimp only); first | exact q | exact hS.out _ (by repeat (first | exact Below.refl _ _ | assumption | refine bel_drew ?_ | refine bel_drewN ?_ _ | refine bel_alloc ?_ _ | refine bel_trans ?_ (by assumption))))); clear hKW KW; (try simp only [Act.put, List.setIfInBounds_toArray, List.set_cons_zero, List.set_cons_succ])
  refine tk_call 31 rfl (by kernel_rfl) (by kernel_rfl) (fun KW hKW => ?_); go_simp; go_at_call 120; refine (KT.out _ (by repeat (first | exact Below.refl _ _ | assumption | refine bel_drew ?_ | refine bel_drewN ?_ _ | refine bel_alloc ?_ _ | refine bel_trans ?_ (by assumption)))).mono ?_; rintro e u31 ⟨rfl, hb31⟩; have B31 := bel_to (W0 := W2) (by repeat (first | exact Below.refl _ _ | assumption | refine bel_drew ?_ | refine bel_drewN ?_ _ | refine bel_alloc ?_ _ | refine bel_trans ?_ (by assumption))) hb31; have q := hS.out _ B31; clear hb31; refine hKW.out _ _ ?_ (fun hHeld => ?_); (focus ((try dsimp only); first | exact q | exact hS.out _ (by repeat (first | exact Below.refl _ _ | assumption | refine bel_drew ?_ | refine bel_drewN ?_ _ | refine bel_alloc ?_ _ | refine bel_trans ?_ (by assumption))))); clear hKW KW; (try simp only [Act.put, List.setIfInBounds_toArray, List.set_cons_zero, List.set_cons_succ])
  refine tk_yes 32 (v := ?_) rfl (by kernel_rfl) (by kernel_rfl) (by kernel_rfl) (fun _ _ _ h => h) (by kernel_rfl) (by assumption) ?_ ?_; rotate_left; (focus (intro w hSw; (try dsimp only at hSw); go_simp; (first | done | (with_reducible rfl)))); (try simp only [Act.put, List.setIfInBounds_toArray, List.set_cons_zero, List.set_cons_succ])
  refine tk_yes 33 (v := ?_) rfl (by kernel_rfl) (by kernel_rfl) (by kernel_rfl) (fun _ _ _ h => h) (by kernel_rfl) (by assumption) ?_ ?_; rotate_left; (focus (intro w hSw; (try dsimp only at hSw); go_simp; (first | done | (with_reducible rfl)))); (try simp only [Act.put, List.setIfInBounds_toArray, List.set_cons_zero, List.set_cons_succ])
  refine tk_yes 34 (v := ?_) rfl (by kernel_rfl) (by kernel_rfl) (by kernel_rfl) (fun _ _ _ h => h) (by kernel_rfl) (by assumption) ?_ ?_; rotate_left; (focus (intro w hSw; (try dsimp only at hSw); go_simp; (first | done | (with_reducible rfl)))); (try simp only [Act.put, List.setIfInBounds_toArray, List.set_cons_zero, List.set_cons_succ])
  refine tk_yes 35 (v := ?_) rfl (by kernel_rfl) (by kernel_rfl) (by kernel_rfl) (fun _ _ _ h => h) (by kernel_rfl) (by assumption) ?_ ?_; rotate_left; (focus (intro w hSw; (try dsimp only at hSw); go_simp; (first | done | (with_reducible rfl)))); (try simp only [Act.put, List.setIfInBounds_toArray, List.set_cons_zero, List.set_cons_succ])
  refine tk_yes 36 (v := ?_) rfl (by kernel_rfl) (by kernel_rfl) (by kernel_rfl) (fun _ _ _ h => h) (by kernel_rfl) (by assumption) ?_ ?_; rotate_left; (focus (intro w hSw; (try dsimp only at hSw); go_simp; (first | done | (with_reducible rfl)))); (try simp only [Act.put, List.setIfInBounds_toArray, List.set_cons_zero, List.set_cons_succ])
  refine tk_yes 38 (v := ?_) rfl (by kernel_rfl) (by kernel_rfl) (by kernel_rfl) (fun _ _ _ h => h) (by kernel_rfl) (by assumption) ?_ ?_; rotate_left; (focus (intro w hSw; (try dsimp only at hSw); go_simp; (first | done | (with_reducible rfl)))); (try simp only [Act.put, List.setIfInBounds_toArray, List.set_cons_zero, List.set_cons_succ])
  refine tk_yes 39 (v := ?_) rfl (by kernel_rfl) (by kernel_rfl) (by kernel_rfl) (fun _ _ _ h => h) (by kernel_rfl) (by assumption) ?_ ?_; rotate_left; (focus (intro w hSw; (try dsimp only at hSw); go_simp; (first | done | (with_reducible rfl)))); (try simp only [Act.put, List.setIfInBounds_toArray, List.set_cons_zero, List.set_cons_succ])
  refine tk_call 37 rfl (by kernel_rfl) (by kernel_rfl) (fun KW hKW => ?_); go_simp; go_at_call 54; refine (KN.out _ (by repeat (first | exact Below.refl _ _ | assumption | refine bel_drew ?_ | refine bel_drewN ?_ _ | refine bel_alloc ?_ _ | refine bel_trans ?_ (by assumption)))).mono ?_; rintro e u37 ⟨rfl, hb37⟩; have B37 := bel_to (W0 := W2) (by repeat (first | exact Below.refl _ _ | assumption | refine bel_drew ?_ | refine bel_drewN ?_ _ | refine bel_alloc ?_ _ | refine bel_trans ?_ (by assumption))) hb37; have q := hS.out _ B37; clear hb37; refine hKW.out _ _ ?_ (fun hHeld => ?_); (focus ((try dsimp only); first | exact q | exact hS.out _ (by repeat (first | exact Below.refl _ _ | assumption | refine bel_drew ?_ | refine bel_drewN ?_ _ | refine bel_alloc ?_ _ | refine bel_trans ?_ (by assumption))))); clear hKW KW; (try simp only [Act.put, List.setIfInBounds_toArray, List.set_cons_zero, List.set_cons_succ])
  refine tk_call 40 rfl (by kernel_rfl) (by kernel_rfl) (fun KW hKW => ?_); go_simp; go_at_call 121; refine (KM.out _ (by repeat (first | exact Below.refl _ _ | assumption | refine bel_drew ?_ | refine bel_drewN ?_ _ | refine bel_alloc ?_ _ | refine bel_trans ?_ (by assumption)))).mono ?_; rintro e u40 ⟨rfl, hb40⟩; have B40 := bel_to (W0 := W2) (by repeat (first | exact Below.refl _ _ | assumption | refine bel_drew ?_ | refine bel_drewN ?_ _ | refine bel_alloc ?_ _ | refine bel_trans ?_ (by assumption))) hb40; have q := hS.out _ B40; clear hb40; refine hKW.out _ _ ?_ (fun hHeld => ?_); (focus ((try dsimp only); first | exact q | exact hS.out _ (by repeat (first | exact Below.refl _ _ | assumption | refine bel_drew ?_ | refine bel_drewN ?_ _ | refine bel_alloc ?_ _ | refine bel_trans ?_ (by assumption))))); clear hKW KW; (try simp only [Act.put, List.setIfInBounds_toArray, List.set_cons_zero, List.set_cons_succ])
  refine tk_yes 41 (v := ?_) rfl (by kernel_rfl) (by kernel_rfl) (by kernel_rfl) (fun _ _ _ h => h) (by kernel_rfl) (by assumption) ?_ ?_; rotate_left; (focus (intro w hSw; (try dsimp only at hSw); go_simp; (first | done | (with_reducible rfl)))); (try simp only [Act.put, List.setIfInBounds_toArray, List.set_cons_zero, List.set_cons_succ])
  refine tk_yes 42 (v := ?_) rfl (by kernel_rfl) (by kernel_rfl) (by kernel_rfl) (fun _ _ _ h => h) (by kernel_rfl) (by assumption) ?_ ?_; rotate_left; (focus (intro w hSw; (try dsimp only at hSw); go_simp; (first | done | (with_reducible rfl)))); (try simp only [Act.put, List.setIfInBounds_toArray, List.set_cons_zero, List.set_cons_succ])
  refine tk_yes 43 (v := ?_) rfl (by kernel_rfl) (by kernel_rfl) (by kernel_rfl) (fun _ _ _ h => h) (by kernel_rfl) (by assumption) ?_ ?_; rotate_left; (focus (intro w hSw; (try dsimp only at hSw); go_simp; (first | done | (with_reducible rfl)))); (try simp only [Act.put, List.setIfInBounds_toArray, List.set_cons_zero, List.set_cons_succ])
  refine tk_yes 44 (v := ?_) rfl (by kernel_rfl) (by kernel_rfl) (by kernel_rfl) (fun _ _ _ h => h) (by kernel_rfl) (by assumption) ?_ ?_; rotate_left; (focus (intro w hSw; (try dsimp only at hSw); go_simp; (first | done | (with_reducible rfl)))); (try simp only [Act.put, List.setIfInBounds_toArray, List.set_cons_zero, List.set_cons_succ])
  refine tk_yes 45 (v := ?_) rfl (by kernel_rfl) (by kernel_rfl) (by kernel_rfl) (fun _ _ _ h => h) (by kernel_rfl) (by assumption) ?_ ?_; rotate_left; (focus (intro w hSw; (try dsimp only at hSw); go_simp; (first | done | (with_reducible rfl)))); (try simp only [Act.put, List.setIfInBounds_toArray, List.set_cons_zero, List.set_cons_succ])
  refine tk_yes 47 (v := ?_) rfl (by kernel_rfl) (by kernel_rfl) (by kernel_rfl) (fun _ _ _ h => h) (by kernel_rfl) (by assumption) ?_ ?_; rotate_left; (focus (intro w hSw; (try dsimp only at hSw); go_simp; (first | done | (with_reducible rfl)))); (try simp only [Act.put, List.setIfInBounds_toArray, List.set_cons_zero, List.set_cons_succ])
  refine tk_call 46 rfl (by kernel_rfl) (by kernel_rfl) (fun KW hKW => ?_); go_simp; go_at_call 51; refine (KC.out _ (by repeat (first | exact Below.refl _ _ | assumption | refine bel_drew ?_ | refine bel_drewN ?_ _ | refine bel_alloc ?_ _ | refine bel_trans ?_ (by assumption)))).mono ?_; rintro e u46 ⟨A46, n46, c46, rfl, i46, hb46⟩; have I46 := Lib.hid i46.1; have B46 := bel_to (W0 := W2) (by repeat (first | exact Below.refl _ _ | assumption | refine bel_drew ?_ | refine bel_drewN ?_ _ | refine bel_alloc ?_ _ | refine bel_trans ?_ (by assumption))) hb46; have q := hS.out _ B46; clear hb46 i46; refine hKW.out _ _ ?_ (fun hHeld => ?_); (focus ((try dsimp only); first | exact q | exact hS.out _ (by repeat (first | exact Below.refl _ _ | assumption | refine bel_drew ?_ | refine bel_drewN ?_ _ | refine bel_alloc ?_ _ | refine bel_trans ?_ (by assumption))))); clear hKW KW; (try simp only [Act.put, List.setIfInBounds_toArray, List.set_cons_zero, List.set_cons_succ])
  refine tk_call 48 rfl (by kernel_rfl) (by kernel_rfl) (fun KW hKW => ?_); go_simp; go_at_call 45; refine (base_SameInts c46 0 I46.out (KK.out _ (by repeat (first | exact Below.refl _ _ | assumption | refine bel_drew ?_ | refine bel_drewN ?_ _ | refine bel_alloc ?_ _ | refine bel_trans ?_ (by assumption))))).mono ?_; rw [decide_eq_true rfl]; rintro e u48 ⟨rfl, hb48⟩; have B48 := bel_to (W0 := W2) (by repeat (first | exact Below.refl _ _ | assumption | refine bel_drew ?_ | refine bel_drewN ?_ _ | refine bel_alloc ?_ _ | refine bel_trans ?_ (by assumption))) hb48; have q := hS.out _ B48; clear hb48; refine hKW.out _ _ ?_ (fun hHeld => ?_); (focus ((try dsimp only); first | exact q | exact hS.out _ (by repeat (first | exact Below.refl _ _ | assumption | refine bel_drew ?_ | refine bel_drewN ?_ _ | refine bel_alloc ?_ _ | refine bel_trans ?_ (by assumption))))); clear hKW KW; (try simp only [Act.put, List.setIfInBounds_toArray, List.set_cons_zero, List.set_cons_succ])
  refine tk_yes 49 (v := ?_) rfl (by kernel_rfl) (by kernel_rfl) (by kernel_rfl) (fun _ _ _ h => h) (by kernel_rfl) (by assumption) ?_ ?_; rotate_left; (focus (intro w hSw; (try dsimp only at hSw); go_simp; (first | done | (with_reducible rfl)))); (try simp only [Act.put, List.setIfInBounds_toArray, List.set_cons_zero, List.set_cons_succ])
  refine tk_yes 50 (v := ?_) rfl (by kernel_rfl) (by kernel_rfl) (by kernel_rfl) (fun _ _ _ h => h) (by kernel_rfl) (by assumption) ?_ ?_; rotate_left; (focus (intro w hSw; (try dsimp only at hSw); go_simp; (first | done | (with_reducible rfl)))); (try simp only [Act.put, List.setIfInBounds_toArray, List.set_cons_zero, List.set_cons_succ])
  refine wpAnyH_done (by kernel_rfl) ?_ _
  go_wp2_with fail
  go_ret
  exact ⟨rfl, bel_trans BW.out B48⟩
end Go.Proofs.Ytdhcmnbajkpjiaa
