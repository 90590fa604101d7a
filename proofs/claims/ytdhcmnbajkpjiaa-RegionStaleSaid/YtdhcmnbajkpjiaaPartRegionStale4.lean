/- Part 4 of the proof of RegionStale: lemmas, each with its conditions ahead of it. -/
import Derived.Test.YtdhcmnbajkpjiaaPartRegionStale3
import Derived.Test.YtdhcmnbajkpjiaaPartRegionStale2
import Derived.Deep.RegionHeld3
import Derived.Deep.Cut
import Derived.Outline
/-
  The reference's forest in memory: At, Up.
-/
namespace Go.Proofs.Ytdhcmnbajkpjiaa
open Go.RowKit
open Go.Maps
set_option linter.unusedVariables false
set_option linter.unusedSimpArgs false
attribute [local go_sem] drewN_alloc drewN_setCell

def upsOf (N : List Nat) (up : List Int) : List Int := N.map (fun p => up.getD p 0)
theorem upsOf_len (N : List Nat) (up : List Int) : (upsOf N up).length = N.length := by simp [upsOf]
theorem upsOf_get {N : List Nat} {up : List Int} {k : Nat} (hk : k < N.length) : (upsOf N up).getD k 0 = up.getD N[k] 0 := by simp [upsOf, List.getD, hk]
/-- The reference's forest. -/
def RefF (P : Nat → Prop) (w : World) (V : Value) (n : Nat) (g : List Int) (O cl : List Nat) (fr : Nat) (N : List Nat) (up : List Int) : Prop :=
  ∃ Ao co Ag cg Ac cc An cn Ap cp, V = .agg #[.slice Ao n co, .slice Ag n cg, .slice Ac cl.length cc, .int .i64 (fr : Int), .slice An N.length cn, .slice Ap N.length cp] ∧ RefS P w (.agg #[.slice Ao n co, .slice Ag n cg, .slice Ac cl.length cc, .int .i64 (fr : Int)]) n g O cl fr ∧
    VAt P w An N.length cn (cellsI (ints N)) ∧ VAt P w Ap N.length cp (cellsI (upsOf N up))
variable {P : Nat → Prop} {w w' : World} {V : Value} {n : Nat} {g : List Int} {O cl : List Nat} {fr : Nat} {N : List Nat} {up : List Int}
theorem RefF.blocks (h : RefF P w V n g O cl fr N up) (hs : w.heap.size ≤ w'.heap.size) (hb : ∀ b, b < w.heap.size → P b → w'.heap[b]? = w.heap[b]?) : RefF P w' V n g O cl fr N up := by
  obtain ⟨Ao, co, Ag, cg, Ac, cc, An, cn, Ap, cp, e, h1, h2, h3⟩ := h
  exact ⟨Ao, co, Ag, cg, Ac, cc, An, cn, Ap, cp, e, h1.blocks hs hb, h2.blocks hs hb, h3.blocks hs hb⟩
theorem RefF.keep (h : RefF P w V n g O cl fr N up) (hb : Below w.heap.size w w') : RefF P w' V n g O cl fr N up := h.blocks hb.size (fun b h1 _ => hb.block b h1)
theorem RefF.mono {P' : Nat → Prop} (h : RefF P w V n g O cl fr N up) (hp : ∀ b, b < w.heap.size → P b → P' b) : RefF P' w V n g O cl fr N up := by
  obtain ⟨Ao, co, Ag, cg, Ac, cc, An, cn, Ap, cp, e, h1, h2, h3⟩ := h
  exact ⟨Ao, co, Ag, cg, Ac, cc, An, cn, Ap, cp, e, h1.mono hp, h2.mono hp, h3.mono hp⟩
theorem ints_cells {r : List Nat} {k : Nat} (hk : k < r.length) : (cellsI (ints r))[k]? = some (.int .i64 ((r[k] : Nat) : Int)) := by simp [cellsI, ints, hk]
theorem ups_cells {k : Nat} (hk : k < N.length) : (cellsI (upsOf N up))[k]? = some (.int .i64 (up.getD N[k] 0)) := by simp [cellsI, upsOf, hk]

set_option maxHeartbeats 2000000 in
theorem ref37_At (x : Int) (h : RefF P w V n g O cl fr N up) : Calls Try.prog 110 #[V, .int .i64 x] w fun e w' => e = .returned (.int .i64 (PC.place N x)) ∧ Below w.heap.size w w' := by
  obtain ⟨Ao, co, Ag, cg, Ac, cc, An, cn, Ap, cp, rfl, h1, h2, h3⟩ := h
  have hm : N.length ≤ 9223372036854775807 := Nat.le_trans h2.2.1 h2.2.2.1
  obtain ⟨p, hp⟩ : ∃ p, PC.place N x = p := ⟨_, rfl⟩
  rw [hp]
  have HP := Lib.hid hp
  have H2 := Lib.hid h2
  obtain ⟨m, hml⟩ : ∃ m, cl.length = m := ⟨_, rfl⟩
  rw [hml]
  obtain ⟨w0, hw0⟩ : ∃ w0, w.alloc (.cells #[.slice Ao n co, .slice Ag n cg, .slice Ac m cc, .int .i64 (fr : Int), .slice An N.length cn, .slice Ap N.length cp] 58) = w0 := ⟨_, rfl⟩
  have r0 : RowAt w0 w.heap.size 58 [.slice Ao n co, .slice Ag n cg, .slice Ac m cc, .int .i64 (fr : Int), .slice An N.length cn, .slice Ap N.length cp] := by rw [← hw0]; exact RowAt.new w 58 _
  have b0 : Below w.heap.size w w0 := by rw [← hw0]; exact (by repeat (first | exact Below.refl _ _ | assumption | refine bel_drew ?_ | refine bel_drewN ?_ _ | refine bel_alloc ?_ _ | refine bel_set ?_ (by first | (dsimp only; omega) | (simp; done) | (simp; omega)) _ | refine bel_trans ?_ (by assumption)))
  have c4 : w0.cell? ⟨w.heap.size, 4, none⟩ = some (.slice An N.length cn) := by rw [r0.cell]; rfl
  have c5 : w0.cell? ⟨w.heap.size, 5, none⟩ = some (.slice Ap N.length cp) := by rw [r0.cell]; rfl
  have B0 := Lib.hid b0
  have HW0 := Lib.hid hw0
  clear h1 h2 h3 hp r0 hml b0 hw0
  go_enter Try.func110, Try.ntmps110
  go_upto_region 1 with (fail)
  rw [HW0.out]
  go_wp2_with fail
  go_loop [5] (fun i => PlaceRel N x i) (fun i => N.length - (intOf i).toNat)
  case atStart => exact ⟨0, Nat.zero_le _, rfl, fun j hj h => absurd h (by omega)⟩
  case round =>
    obtain ⟨k, hk, rfl, hf⟩ := hrel
    have HF := Lib.hid hf
    clear hf
    have g0 : (0 : Int) ≤ (k : Int) := by omega
    by_cases hlt : k < N.length
    · have hlt' : (k : Int) < (N.length : Int) := by omega
      obtain ⟨b, off, rfl, hb, x0⟩ := (H2.out.keep B0.out).at (ints_cells hlt)
      obtain ⟨v, hv⟩ : ∃ v : Nat, N[k] = v := ⟨_, rfl⟩
      rw [hv] at x0
      by_cases hvx : (v : Int) = x
      · have e := place_some hlt (by rw [hv]; exact hvx) HF.out
        rw [HP.out] at e
        have E := Lib.hid e
        have e1 : ((v : Int) == x) = true := by simpa using hvx
        clear e hvx hv
        go_wp2_with fail
        go_ret
        exact ⟨ret_int E.out.symm, B0.out⟩
      · have e1 : ((v : Int) == x) = false := by simpa using hvx
        have HV := Lib.hid hv
        have HX := Lib.hid hvx
        clear hv hvx
        go_wp2_with fail
        go_round
        case rel =>
          refine ⟨k + 1, by omega, by go_num, fun j hj hjk => ?_⟩
          by_cases e : j = k
          · subst e; rw [HV.out]; exact HX.out
          · exact HF.out j hj (by omega)
        case measure => simp [intOf]; omega
    · have hkn : k = N.length := by omega
      have e := place_none (fun j hj => HF.out j hj (by omega))
      rw [HP.out] at e
      have E := Lib.hid e
      clear e hkn
      go_wp2_with fail
      go_ret
      exact ⟨ret_int E.out.symm, B0.out⟩
set_option maxHeartbeats 2000000 in
theorem ref37_Up (x : Int) (h : RefF P w V n g O cl fr N up) : Calls Try.prog 119 #[V, .int .i64 x] w fun e w' => e = .returned (.int .i64 (upN N up x)) ∧ Below w.heap.size w w' := by
  have hh := h
  obtain ⟨Ao, co, Ag, cg, Ac, cc, An, cn, Ap, cp, rfl, h1, h2, h3⟩ := h
  obtain ⟨m, hml⟩ : ∃ m, cl.length = m := ⟨_, rfl⟩
  rw [hml] at hh ⊢
  obtain ⟨w0, hw0⟩ : ∃ w0, w.alloc (.cells #[.slice Ao n co, .slice Ag n cg, .slice Ac m cc, .int .i64 (fr : Int), .slice An N.length cn, .slice Ap N.length cp] 58) = w0 := ⟨_, rfl⟩
  have r0 : RowAt w0 w.heap.size 58 [.slice Ao n co, .slice Ag n cg, .slice Ac m cc, .int .i64 (fr : Int), .slice An N.length cn, .slice Ap N.length cp] := by rw [← hw0]; exact RowAt.new w 58 _
  have b0 : Below w.heap.size w w0 := by rw [← hw0]; exact (by repeat (first | exact Below.refl _ _ | assumption | refine bel_drew ?_ | refine bel_drewN ?_ _ | refine bel_alloc ?_ _ | refine bel_set ?_ (by first | (dsimp only; omega) | (simp; done) | (simp; omega)) _ | refine bel_trans ?_ (by assumption)))
  have c4 : w0.cell? ⟨w.heap.size, 4, none⟩ = some (.slice An N.length cn) := by rw [r0.cell]; rfl
  have c5 : w0.cell? ⟨w.heap.size, 5, none⟩ = some (.slice Ap N.length cp) := by rw [r0.cell]; rfl
  have K := ref37_At x (hh.keep b0)
  have c0 : w0.cell? ⟨w.heap.size, 0, none⟩ = some (.slice Ao n co) := by rw [r0.cell]; rfl
  have c1 : w0.cell? ⟨w.heap.size, 1, none⟩ = some (.slice Ag n cg) := by rw [r0.cell]; rfl
  have c2 : w0.cell? ⟨w.heap.size, 2, none⟩ = some (.slice Ac m cc) := by rw [r0.cell]; rfl
  have c3 : w0.cell? ⟨w.heap.size, 3, none⟩ = some (.int .i64 (fr : Int)) := by rw [r0.cell]; rfl
  have B0 := Lib.hid b0
  have HW0 := Lib.hid hw0
  by_cases hx : 0 ≤ x ∧ x.toNat ∈ N
  · have hk := List.idxOf_lt_length_iff.2 hx.2
    have e1 : PC.place N x = (N.idxOf x.toNat : Nat) := by unfold PC.place; rw [if_pos hx]
    have e2 : upN N up x = up.getD x.toNat 0 := by unfold upN; rw [if_pos hx]
    have e3 : N[N.idxOf x.toNat] = x.toNat := List.getElem_idxOf hk
    obtain ⟨b, off, rfl, hb, x0⟩ := (h3.keep b0).at (ups_cells (up := up) hk)
    rw [e3] at x0
    rw [e1] at K
    rw [e2]
    obtain ⟨k, hk'⟩ : ∃ k, N.idxOf x.toNat = k := ⟨_, rfl⟩
    obtain ⟨u, hu⟩ : ∃ u, up.getD x.toNat 0 = u := ⟨_, rfl⟩
    rw [hk'] at K x0 hk
    rw [hu] at x0 ⊢
    have g0 : (0 : Int) ≤ (k : Int) := by omega
    have g1 : (k : Int) < (N.length : Int) := by omega
    have g2 : decide ((k : Int) < (0 : Int)) = false := decide_eq_false (by omega)
    have g3 : ¬ (k : Int) < (0 : Int) := by omega
    replace K := Lib.hid K
    clear h1 h2 h3 hx e1 e2 e3 hk' hu hml hw0 b0 hh
    go_enter Try.func119, Try.ntmps119
    go_upto_region 1 with (fail)
    rw [HW0.out]
    go_wp2_with fail
    refine K.out.mono ?_
    rintro e w1 ⟨rfl, hb1⟩
    have r1 := r0.keep hb1
    have d5 : w1.cell? ⟨w.heap.size, 5, none⟩ = some (.slice (some ⟨b, off, none⟩) N.length cp) := by rw [r1.cell]; rfl
    have x1 := (hb1.cell (p := ⟨b, off + k, none⟩) hb).trans x0
    have B1 := Lib.hid (bel_trans B0.out hb1)
    clear hb1 r0 c0 c1 c2 c3 c4 c5 x0 hb
    go_wp2_with fail
    go_ret
    exact ⟨rfl, B1.out⟩
  · have e1 : PC.place N x = -1 := by unfold PC.place; rw [if_neg hx]
    have e2 : upN N up x = -1 := by unfold upN; rw [if_neg hx]
    rw [e1] at K
    rw [e2]
    replace K := Lib.hid K
    clear h1 h2 h3 hx e1 e2 hml hw0 b0 hh
    go_enter Try.func119, Try.ntmps119
    go_upto_region 1 with (fail)
    rw [HW0.out]
    go_wp2_with fail
    refine K.out.mono ?_
    rintro e w1 ⟨rfl, hb1⟩
    have B1 := Lib.hid (bel_trans B0.out hb1)
    clear hb1 r0 c0 c1 c2 c3 c4 c5
    go_wp2_with fail
    go_ret
    exact ⟨rfl, B1.out⟩
end Go.Proofs.Ytdhcmnbajkpjiaa
/-
  The reference's slots in memory: OpenOne.
-/
namespace Go.Proofs.Ytdhcmnbajkpjiaa
open Go.RowKit
open Go.Maps
set_option linter.unusedVariables false
set_option linter.unusedSimpArgs false
attribute [local go_sem] drewN_alloc drewN_setCell

variable {P : Nat → Prop} {w w' : World} {V : Value} {n : Nat} {g : List Int} {O cl : List Nat} {fr : Nat}
theorem set4_row {W : World} {b k : Nat} {t : TypeId} {cs : List Value} (h : RowAt W k t cs) (hk : k ≠ b) (x0 x1 x2 x3 : Value) : RowAt ((((W.setCell ⟨b, 0, none⟩ x0).setCell ⟨b, 1, none⟩ x1).setCell ⟨b, 2, none⟩ x2).setCell ⟨b, 3, none⟩ x3) k t cs :=
  h.of_block (set4_block _ _ _ _ _ _ _ hk)
theorem set4_cell {W : World} {b k j : Nat} {u : Value} (h : W.cell? ⟨k, j, none⟩ = some u) (hk : k ≠ b) (x0 x1 x2 x3 : Value) : ((((W.setCell ⟨b, 0, none⟩ x0).setCell ⟨b, 1, none⟩ x1).setCell ⟨b, 2, none⟩ x2).setCell ⟨b, 3, none⟩ x3).cell? ⟨k, j, none⟩ = some u :=
  (World.cell?_of_block (set4_block _ _ _ _ _ _ _ hk)).trans h
theorem own_vat {P : Nat → Prop} {w : World} {base : Nat} {t : TypeId} {A : Option Addr} {n c : Nat} {vs : List Value} (h : w.ownsRow base t 1 (.slice A n c) n vs) (hP : ∀ b, base ≤ b → P b) : VAt P w A n c vs := by
  obtain ⟨A', c', e, h1⟩ := VAt.of_own h
  injection e with e1 e2 e3
  subst e1; subst e3
  exact h1.mono (fun b _ hb => hP b hb.1)
theorem gwith_below {m cc : Nat} {Ac : Option Addr} {f : Int} {bs : List Bool} {e : Ending} (h : GWith n m cc Ac f bs g w e w') : Below w.heap.size w w' := by
  obtain ⟨_, _, _, _, _, _, _, _, h⟩ := h
  exact h
theorem bel_to {W0 u v : World} (h : Below W0.heap.size W0 u) (hb : Below u.heap.size u v) : Below W0.heap.size W0 v := bel_trans h hb
theorem open_end {Wf u1 W0 : World} {Ac : Option Addr} {cc p fr' m : Nat} {f : Int} {cl' : List Nat} {b2 : Nat} {x0 x1 x2 x3 : Value} (hP : ∀ b, w.heap.size ≤ b → P b) (hb0 : Below w.heap.size w W0) (hb2 : w.heap.size ≤ b2) (hlt : b2 < W0.heap.size)
    (hm : m = cl'.length) (hfr : f = (fr' : Int)) (h3 : VAt P w Ac m cc (cellsI (ints cl'))) (hg : GWith n m cc Ac f ((openL n O).set p true) g W0.drew (.returned V) u1) (hf : Wf = ((((u1.setCell ⟨b2, 0, none⟩ x0).setCell ⟨b2, 1, none⟩ x1).setCell ⟨b2, 2, none⟩ x2).setCell ⟨b2, 3, none⟩ x3)) : RefS P Wf V n g (p :: O) cl' fr' ∧ Below w.heap.size w Wf := by
  obtain ⟨go, cpo, gg, cpg, e, h1, h2, hne, hb⟩ := hg
  cases e
  subst hm
  subst hfr
  have hW : Below w.heap.size w Wf := by rw [hf]; exact set4_below (bel_trans hb0 (undrew hb)) hb2 _ _ _ _
  rw [openL_cons] at h1
  refine ⟨⟨_, _, _, _, _, _, rfl, ?_, ?_, h3.keep hW⟩, hW⟩
  · rw [hf]
    exact own_vat (own_of_block h1 (fun k hk => set4_block _ _ _ _ _ _ _ (by have : W0.heap.size ≤ k := (World.ownsRow.lt h1 k hk).1; omega))) (fun b hb' => hP b (Nat.le_trans hb0.size hb'))
  · rw [hf]
    exact own_vat (own_of_block h2 (fun k hk => set4_block _ _ _ _ _ _ _ (by have : W0.heap.size ≤ k := (World.ownsRow.lt h2 k hk).1; omega))) (fun b hb' => hP b (Nat.le_trans hb0.size hb'))
set_option maxRecDepth 100000 in
set_option maxHeartbeats 4000000 in
theorem ref06_OpenOne_A {p : Nat} {cl' : List Nat} {fr' : Nat} (hp : pickP cl fr n = some (p, cl', fr')) (hi : SlInv n O cl fr) (hn : n ≤ 4096) (hP : ∀ b, w.heap.size ≤ b → P b) (h : RefS P w V n g O cl fr) (h0 : cl.length ≠ 0) :
    Calls Try.prog 117 #[V] w (GOpen P n g O p cl' fr' w) := by
  obtain ⟨hi2, hno, hpn, hpf⟩ := hi.pick hp
  obtain ⟨Ao, co, Ag, cg, Ac, cc, rfl, h1, h2, h3⟩ := h
  have hgl : g.length = n := by have := h2.1; simpa [cellsI] using this
  obtain ⟨bo, oo, rfl, -, -⟩ := h1.at (openL_get (O := O) hpn)
  obtain ⟨bg, og, rfl, hbg, cgp⟩ := h2.at (cellsI_at (l := g) (i := p) (by omega))
  obtain ⟨gp, hgp⟩ : ∃ gp, g.getD p 0 = gp := ⟨_, rfl⟩
  rw [hgp] at cgp
  have HGP := Lib.hid hgp
  have H1 := Lib.hid h1
  have H2 := Lib.hid h2
  have HP := Lib.hid hP
  unfold pickP at hp
  rw [if_pos h0] at hp
  obtain ⟨k, hk⟩ : ∃ k, cl.length - 1 = k := ⟨_, rfl⟩
  rw [hk] at hp
  have hkl : k < cl.length := by omega
  have hpe : cl.getD k 0 = p := by injection hp with hp; injection hp with a b
  have hce : cl.take k = cl' := by injection hp with hp; injection hp with a b; injection b with b c
  have hfe : fr = fr' := by injection hp with hp; injection hp with a b; injection b with b c
  subst hce; subst hfe
  clear hp
  obtain ⟨bc, oc, rfl, hbc, cc0⟩ := h3.at (cellsI_at (l := ints cl) (i := k) (by rw [ints_len]; exact hkl))
  have hpe2 : (ints cl).getD k 0 = (p : Int) := by rw [← hpe]; simp [ints, List.getD, hkl]
  rw [hpe2] at cc0
  have H3 : Hid (VAt P w (some ⟨bc, oc, none⟩) k cc (cellsI (ints (cl.take k)))) := Lib.hid (by
    refine ⟨by simp [cellsI, ints]; omega, by have := h3.2.1; omega, h3.2.2.1, fun hk0 => ?_⟩
    obtain ⟨b, off, e, a1, a2, a3⟩ := h3.2.2.2 (by omega)
    refine ⟨b, off, e, a1, a2, fun i u hu => a3 i u ?_⟩
    have e : cellsI (ints (cl.take k)) = (cellsI (ints cl)).take k := by simp [cellsI, ints, List.map_take]
    rw [e, List.getElem?_take] at hu
    split at hu
    · exact hu
    · cases hu)
  have hkc : k ≤ cc := by have := h3.2.1; omega
  have hw : IntKind.i64.wrap ((cl.length : Int) - 1) = (k : Int) := by rw [IntKind.wrap_i64]; have := h3.2.2.1; have := h3.2.1; omega
  have j0 : (0 : Int) < (cl.length : Int) := by omega
  have j1 : (k : Int) < (cl.length : Int) := by omega
  have j2 : (0 : Int) ≤ (k : Int) := by omega
  have j3 : (k : Int) ≤ (cc : Int) := by omega
  have j4 : decide ((0 : Int) < (cl.length : Int)) = true := decide_eq_true j0
  have j5 : (0 : Int) ≤ (p : Int) := by omega
  have j6 : (p : Int) < (n : Int) := by omega
  have HK : Hid (k = (cl.take k).length) := Lib.hid (by simp; omega)
  clear h1 h2 h3 hpe hpe2 hk hi hi2 hgp hgl hP
  go_enter Try.func117, Try.ntmps117
  go_upto_region 4 with (fail)
  refine region_name ?_
  rintro W0 hW0
  have r0 : RowAt W0 w.heap.size 56 [.slice (some ⟨bo, oo, none⟩) n co, .slice (some ⟨bg, og, none⟩) n cg, (.slice (some ⟨bc, oc, none⟩) k cc), (.int .i64 (fr : Int))] := by
    rw [hW0]; exact (RowAt.new w 56 _).alloc _
  have s0 : RowAt W0 (w.heap.size + 1) 56 [.slice none 0 0, .slice none 0 0, .slice none 0 0, .int .i64 0] := by
    rw [hW0]
    have := RowAt.new (w.alloc (.cells #[.slice (some ⟨bo, oo, none⟩) n co, .slice (some ⟨bg, og, none⟩) n cg, (.slice (some ⟨bc, oc, none⟩) k cc), (.int .i64 (fr : Int))] 56)) 56 [.slice none 0 0, .slice none 0 0, .slice none 0 0, .int .i64 0]
    simpa using this
  have b0 : Below w.heap.size w W0 := by rw [hW0]; exact (by repeat (first | exact Below.refl _ _ | assumption | refine bel_drew ?_ | refine bel_drewN ?_ _ | refine bel_alloc ?_ _ | refine bel_set ?_ (by first | (dsimp only; omega) | (simp; done) | (simp; omega)) _ | refine bel_trans ?_ (by assumption)))
  have z0 : w.heap.size + 2 ≤ W0.heap.size := by rw [hW0]; simp
  have cg0 : W0.cell? ⟨bg, og + p, none⟩ = some (.int .i64 gp) := (b0.cell (p := ⟨bg, og + p, none⟩) hbg).trans cgp
  clear hW0
  have hS : Hid (∀ W : World, Below W0.heap.size W0 W → (fun W : World => W.cell? ⟨w.heap.size, 0, none⟩ = some (.slice (some ⟨bo, oo, none⟩) n co) ∧ W.cell? ⟨w.heap.size, 1, none⟩ = some (.slice (some ⟨bg, og, none⟩) n cg) ∧ W.cell? ⟨w.heap.size, 2, none⟩ = some (.slice (some ⟨bc, oc, none⟩) k cc) ∧ W.cell? ⟨w.heap.size, 3, none⟩ = some (.int .i64 (fr : Int)) ∧ W.cell? ⟨bg, og + p, none⟩ = some (.int .i64 gp)) W) := Lib.hid (fun W hW => ⟨(hW.cell (p := ⟨w.heap.size, 0, none⟩) (by show w.heap.size < _; omega)).trans (by rw [r0.cell]; rfl), (hW.cell (p := ⟨w.heap.size, 1, none⟩) (by show w.heap.size < _; omega)).trans (by rw [r0.cell]; rfl), (hW.cell (p := ⟨w.heap.size, 2, none⟩) (by show w.heap.size < _; omega)).trans (by rw [r0.cell]; rfl), (hW.cell (p := ⟨w.heap.size, 3, none⟩) (by show w.heap.size < _; omega)).trans (by rw [r0.cell]; rfl), (hW.cell (p := ⟨bg, og + p, none⟩) (by have := b0.size; show bg < _; omega)).trans cg0⟩)
  have hS2 : Hid (∀ (W : World) (x0 x1 x2 x3 : Value), (fun W : World => W.cell? ⟨w.heap.size, 0, none⟩ = some (.slice (some ⟨bo, oo, none⟩) n co) ∧ W.cell? ⟨w.heap.size, 1, none⟩ = some (.slice (some ⟨bg, og, none⟩) n cg) ∧ W.cell? ⟨w.heap.size, 2, none⟩ = some (.slice (some ⟨bc, oc, none⟩) k cc) ∧ W.cell? ⟨w.heap.size, 3, none⟩ = some (.int .i64 (fr : Int)) ∧ W.cell? ⟨bg, og + p, none⟩ = some (.int .i64 gp)) W → (fun W : World => W.cell? ⟨w.heap.size, 0, none⟩ = some (.slice (some ⟨bo, oo, none⟩) n co) ∧ W.cell? ⟨w.heap.size, 1, none⟩ = some (.slice (some ⟨bg, og, none⟩) n cg) ∧ W.cell? ⟨w.heap.size, 2, none⟩ = some (.slice (some ⟨bc, oc, none⟩) k cc) ∧ W.cell? ⟨w.heap.size, 3, none⟩ = some (.int .i64 (fr : Int)) ∧ W.cell? ⟨bg, og + p, none⟩ = some (.int .i64 gp)) ((((W.setCell ⟨w.heap.size + 1, 0, none⟩ x0).setCell ⟨w.heap.size + 1, 1, none⟩ x1).setCell ⟨w.heap.size + 1, 2, none⟩ x2).setCell ⟨w.heap.size + 1, 3, none⟩ x3)) := Lib.hid (fun W x0 x1 x2 x3 hW => ⟨set4_cell hW.1 (by omega) _ _ _ _, set4_cell hW.2.1 (by omega) _ _ _ _, set4_cell hW.2.2.1 (by omega) _ _ _ _, set4_cell hW.2.2.2.1 (by omega) _ _ _ _, set4_cell hW.2.2.2.2 (by omega) _ _ _ _⟩)
  have HC : Hid (∀ W, Below W0.heap.size W0 W → Calls Try.prog 151 #[.agg #[.slice (some ⟨bo, oo, none⟩) n co, .slice (some ⟨bg, og, none⟩) n cg, .slice (some ⟨bc, oc, none⟩) k cc, .int .i64 (fr : Int)], .int .i64 (p : Int), .bool true] W (GWith n k cc (some ⟨bc, oc, none⟩) (fr : Int) ((openL n O).set p true) g W)) := Lib.hid (fun W hW => ref06_with p true hpn hn ((H1.out.keep b0).keep hW) ((H2.out.keep b0).keep hW))
  have HT : Hid (∀ k, k < W0.heap.size → ∀ W, Below W0.heap.size W0 W → W.heap[k]? = W0.heap[k]?) := Lib.hid (fun k hk W hW => hW.block k hk)
  have HSR : Hid (∀ W, Below W0.heap.size W0 W → RowAt W (w.heap.size + 1) 56 [.slice none 0 0, .slice none 0 0, .slice none 0 0, .int .i64 0]) := Lib.hid (fun W hW => s0.keep hW)
  have HB0 := Lib.hid b0
  clear r0 s0 cg0 cgp
  refine wp_region_held_drew (S := (fun W : World => W.cell? ⟨w.heap.size, 0, none⟩ = some (.slice (some ⟨bo, oo, none⟩) n co) ∧ W.cell? ⟨w.heap.size, 1, none⟩ = some (.slice (some ⟨bg, og, none⟩) n cg) ∧ W.cell? ⟨w.heap.size, 2, none⟩ = some (.slice (some ⟨bc, oc, none⟩) k cc) ∧ W.cell? ⟨w.heap.size, 3, none⟩ = some (.int .i64 (fr : Int)) ∧ W.cell? ⟨bg, og + p, none⟩ = some (.int .i64 gp))) (by kernel_rfl) ?_ (fun hHeld => ?_)
  focus ((try dsimp only); first | exact q | exact hS2.out _ _ _ _ _ q | exact hS.out _ (by repeat (first | exact Below.refl _ _ | assumption | refine bel_drew ?_ | refine bel_drewN ?_ _ | refine bel_alloc ?_ _ | refine bel_trans ?_ (by assumption))))
  refine tk_yes 0 (v := ?_) rfl (by kernel_rfl) (by kernel_rfl) (by kernel_rfl) (fun _ _ _ h => h) (by kernel_rfl) (by assumption) ?_ ?_; rotate_left; (focus (intro w hSw; (try dsimp only at hSw); go_simp; (first | done | (with_reducible rfl)))); (try simp only [Act.put, List.setIfInBounds_toArray, List.set_cons_zero, List.set_cons_succ])
  refine tk_yes 1 (v := ?_) rfl (by kernel_rfl) (by kernel_rfl) (by kernel_rfl) (fun _ _ _ h => h) (by kernel_rfl) (by assumption) ?_ ?_; rotate_left; (focus (intro w hSw; (try dsimp only at hSw); go_simp; (first | done | (with_reducible rfl)))); (try simp only [Act.put, List.setIfInBounds_toArray, List.set_cons_zero, List.set_cons_succ])
  refine tk_yes 3 (v := ?_) rfl (by kernel_rfl) (by kernel_rfl) (by kernel_rfl) (fun _ _ _ h => h) (by kernel_rfl) (by assumption) ?_ ?_; rotate_left; (focus (intro w hSw; (try dsimp only at hSw); go_simp; (first | done | (with_reducible rfl)))); (try simp only [Act.put, List.setIfInBounds_toArray, List.set_cons_zero, List.set_cons_succ])
  refine tk_yes 4 (v := ?_) rfl (by kernel_rfl) (by kernel_rfl) (by kernel_rfl) (fun _ _ _ h => h) (by kernel_rfl) (by assumption) ?_ ?_; rotate_left; (focus (intro w hSw; (try dsimp only at hSw); go_simp; (first | done | (with_reducible rfl)))); (try simp only [Act.put, List.setIfInBounds_toArray, List.set_cons_zero, List.set_cons_succ])
  refine tk_yes 5 (v := ?_) rfl (by kernel_rfl) (by kernel_rfl) (by kernel_rfl) (fun _ _ _ h => h) (by kernel_rfl) (by assumption) ?_ ?_; rotate_left; (focus (intro w hSw; (try dsimp only at hSw); go_simp; (first | done | (with_reducible rfl)))); (try simp only [Act.put, List.setIfInBounds_toArray, List.set_cons_zero, List.set_cons_succ])
  refine tk_yes 6 (v := ?_) rfl (by kernel_rfl) (by kernel_rfl) (by kernel_rfl) (fun _ _ _ h => h) (by kernel_rfl) (by assumption) ?_ ?_; rotate_left; (focus (intro w hSw; (try dsimp only at hSw); go_simp; (first | done | (with_reducible rfl)))); (try simp only [Act.put, List.setIfInBounds_toArray, List.set_cons_zero, List.set_cons_succ])
  refine tk_yes 7 (v := ?_) rfl (by kernel_rfl) (by kernel_rfl) (by kernel_rfl) (fun _ _ _ h => h) (by kernel_rfl) (by assumption) ?_ ?_; rotate_left; (focus (intro w hSw; (try dsimp only at hSw); go_simp; (first | done | (with_reducible rfl)))); (try simp only [Act.put, List.setIfInBounds_toArray, List.set_cons_zero, List.set_cons_succ])
  refine tk_yes 8 (v := ?_) rfl (by kernel_rfl) (by kernel_rfl) (by kernel_rfl) (fun _ _ _ h => h) (by kernel_rfl) (by assumption) ?_ ?_; rotate_left; (focus (intro w hSw; (try dsimp only at hSw); go_simp; (first | done | (with_reducible rfl)))); (try simp only [Act.put, List.setIfInBounds_toArray, List.set_cons_zero, List.set_cons_succ])
  refine tk_call 2 rfl (by kernel_rfl) (by kernel_rfl) (fun KW hKW => ?_); go_simp; go_at_call 151; refine (HC.out _ (by repeat (first | exact Below.refl _ _ | assumption | refine bel_drew ?_ | refine bel_drewN ?_ _ | refine bel_alloc ?_ _ | refine bel_trans ?_ (by assumption)))).mono ?_; rintro e u1 hgw; have hb1 := gwith_below hgw; have hbb := bel_to (W0 := W0) (by repeat (first | exact Below.refl _ _ | assumption | refine bel_drew ?_ | refine bel_drewN ?_ _ | refine bel_alloc ?_ _ | refine bel_trans ?_ (by assumption))) (undrew hb1); have HG := Lib.hid hgw; obtain ⟨go, cpo, gg, cpg, rfl, -, -, -, -⟩ := hgw; have q := hS.out _ hbb; have s1 := HSR.out _ hbb; have e0 := (s1.cell 0).trans rfl; have e1 := (s1.cell 1).trans rfl; have e2 := (s1.cell 2).trans rfl; have e3 := (s1.cell 3).trans rfl; have f0 := s1.frozen 0; have f1 := s1.frozen 1; have f2 := s1.frozen 2; have f3 := s1.frozen 3; clear hb1; refine hKW.out _ _ ?_ (fun hHeld => ?_); (focus ((try dsimp only); first | exact q | exact hS2.out _ _ _ _ _ q | exact hS.out _ (by repeat (first | exact Below.refl _ _ | assumption | refine bel_drew ?_ | refine bel_drewN ?_ _ | refine bel_alloc ?_ _ | refine bel_trans ?_ (by assumption))))); clear hKW KW; (try simp only [Act.put, List.setIfInBounds_toArray, List.set_cons_zero, List.set_cons_succ])
  refine tk_call 9 rfl (by kernel_rfl) (by kernel_rfl) (fun KW hKW => ?_); go_simp; refine hKW.out _ _ ?_ (fun hHeld => ?_); (focus ((try dsimp only); first | exact q | exact hS2.out _ _ _ _ _ q | exact hS.out _ (by repeat (first | exact Below.refl _ _ | assumption | refine bel_drew ?_ | refine bel_drewN ?_ _ | refine bel_alloc ?_ _ | refine bel_trans ?_ (by assumption))))); clear hKW KW; (try simp only [Act.put, List.setIfInBounds_toArray, List.set_cons_zero, List.set_cons_succ])
  refine tk_yes 10 (v := ?_) rfl (by kernel_rfl) (by kernel_rfl) (by kernel_rfl) (fun _ _ _ h => h) (by kernel_rfl) (by assumption) ?_ ?_; rotate_left; (focus (intro w hSw; (try dsimp only at hSw); go_simp; (first | done | (with_reducible rfl)))); (try simp only [Act.put, List.setIfInBounds_toArray, List.set_cons_zero, List.set_cons_succ])
  refine tk_yes 11 (v := ?_) rfl (by kernel_rfl) (by kernel_rfl) (by kernel_rfl) (fun _ _ _ h => h) (by kernel_rfl) (by assumption) ?_ ?_; rotate_left; (focus (intro w hSw; (try dsimp only at hSw); go_simp; (first | done | (with_reducible rfl)))); (try simp only [Act.put, List.setIfInBounds_toArray, List.set_cons_zero, List.set_cons_succ])
  refine tk_yes 12 (v := ?_) rfl (by kernel_rfl) (by kernel_rfl) (by kernel_rfl) (fun _ _ _ h => h) (by kernel_rfl) (by assumption) ?_ ?_; rotate_left; (focus (intro w hSw; (try dsimp only at hSw); go_simp; (first | done | (with_reducible rfl)))); (try simp only [Act.put, List.setIfInBounds_toArray, List.set_cons_zero, List.set_cons_succ])
  refine wpAnyH_done (by kernel_rfl) ?_ _
  go_wp2_with fail
  obtain ⟨q0, q1, q2, q3, q4⟩ := q
  refine bodyPost_ret (v := .tuple #[.agg #[.slice (some ⟨go, 0, none⟩) n cpo, .slice (some ⟨gg, 0, none⟩) n cpg, .slice (some ⟨bc, oc, none⟩) k cc, .int .i64 (fr : Int)], .int .i64 (p : Int), .int .i64 gp, .bool true]) (by simp [results, Try.results117, go_sem, e0, e1, e2, e3]) rfl ?_
  rw [← HGP.out]
  exact ⟨_, rfl, open_end HP.out HB0.out (Nat.le_succ _) z0 HK.out rfl H3.out HG.out rfl⟩
set_option maxRecDepth 100000 in
set_option maxHeartbeats 4000000 in
theorem ref06_OpenOne_B {p : Nat} {cl' : List Nat} {fr' : Nat} (hp : pickP cl fr n = some (p, cl', fr')) (hi : SlInv n O cl fr) (hn : n ≤ 4096) (hP : ∀ b, w.heap.size ≤ b → P b) (h : RefS P w V n g O cl fr) (h0 : ¬ cl.length ≠ 0) :
    Calls Try.prog 117 #[V] w (GOpen P n g O p cl' fr' w) := by
  obtain ⟨hi2, hno, hpn, hpf⟩ := hi.pick hp
  obtain ⟨Ao, co, Ag, cg, Ac, cc, rfl, h1, h2, h3⟩ := h
  have hgl : g.length = n := by have := h2.1; simpa [cellsI] using this
  obtain ⟨bo, oo, rfl, -, -⟩ := h1.at (openL_get (O := O) hpn)
  obtain ⟨bg, og, rfl, hbg, cgp⟩ := h2.at (cellsI_at (l := g) (i := p) (by omega))
  obtain ⟨gp, hgp⟩ : ∃ gp, g.getD p 0 = gp := ⟨_, rfl⟩
  rw [hgp] at cgp
  have HGP := Lib.hid hgp
  have H1 := Lib.hid h1
  have H2 := Lib.hid h2
  have HP := Lib.hid hP
  unfold pickP at hp
  rw [if_neg h0] at hp
  have hfn : fr < n := by
    by_cases h5 : fr < n
    · exact h5
    · rw [if_neg h5] at hp; cases hp
  rw [if_pos hfn] at hp
  have hpe : fr = p := by injection hp with hp; injection hp with a b
  have hce : cl = cl' := by injection hp with hp; injection hp with a b; injection b with b c
  have hfe : fr + 1 = fr' := by injection hp with hp; injection hp with a b; injection b with b c
  subst hce; subst hfe; subst hpe
  clear hp
  have H3 := Lib.hid h3
  have hcl : cl.length = 0 := by omega
  have j4 : decide ((0 : Int) < (cl.length : Int)) = false := decide_eq_false (by omega)
  have j0 : ¬ (0 : Int) < (cl.length : Int) := by omega
  have j5 : (0 : Int) ≤ (fr : Int) := by omega
  have j6 : (fr : Int) < (n : Int) := by omega
  have j7 : decide ((n : Int) ≤ (fr : Int)) = false := decide_eq_false (by omega)
  have hw : IntKind.i64.wrap ((fr : Int) + 1) = (fr : Int) + 1 := by rw [IntKind.wrap_i64]; omega
  clear h1 h2 h3 hi hi2 hgp hgl hP hcl h0
  go_enter Try.func117, Try.ntmps117
  go_upto_region 9 with (fail)
  refine region_name ?_
  rintro W0 hW0
  have r0 : RowAt W0 w.heap.size 56 [.slice (some ⟨bo, oo, none⟩) n co, .slice (some ⟨bg, og, none⟩) n cg, (.slice Ac cl.length cc), (.int .i64 ((fr : Int) + 1))] := by
    rw [hW0]; exact (RowAt.new w 56 _).alloc _
  have s0 : RowAt W0 (w.heap.size + 1) 56 [.slice none 0 0, .slice none 0 0, .slice none 0 0, .int .i64 0] := by
    rw [hW0]
    have := RowAt.new (w.alloc (.cells #[.slice (some ⟨bo, oo, none⟩) n co, .slice (some ⟨bg, og, none⟩) n cg, (.slice Ac cl.length cc), (.int .i64 ((fr : Int) + 1))] 56)) 56 [.slice none 0 0, .slice none 0 0, .slice none 0 0, .int .i64 0]
    simpa using this
  have b0 : Below w.heap.size w W0 := by rw [hW0]; exact (by repeat (first | exact Below.refl _ _ | assumption | refine bel_drew ?_ | refine bel_drewN ?_ _ | refine bel_alloc ?_ _ | refine bel_set ?_ (by first | (dsimp only; omega) | (simp; done) | (simp; omega)) _ | refine bel_trans ?_ (by assumption)))
  have z0 : w.heap.size + 2 ≤ W0.heap.size := by rw [hW0]; simp
  have cg0 : W0.cell? ⟨bg, og + fr, none⟩ = some (.int .i64 gp) := (b0.cell (p := ⟨bg, og + fr, none⟩) hbg).trans cgp
  clear hW0
  have hS : Hid (∀ W : World, Below W0.heap.size W0 W → (fun W : World => W.cell? ⟨w.heap.size, 0, none⟩ = some (.slice (some ⟨bo, oo, none⟩) n co) ∧ W.cell? ⟨w.heap.size, 1, none⟩ = some (.slice (some ⟨bg, og, none⟩) n cg) ∧ W.cell? ⟨w.heap.size, 2, none⟩ = some (.slice Ac cl.length cc) ∧ W.cell? ⟨w.heap.size, 3, none⟩ = some (.int .i64 ((fr : Int) + 1)) ∧ W.cell? ⟨bg, og + fr, none⟩ = some (.int .i64 gp)) W) := Lib.hid (fun W hW => ⟨(hW.cell (p := ⟨w.heap.size, 0, none⟩) (by show w.heap.size < _; omega)).trans (by rw [r0.cell]; rfl), (hW.cell (p := ⟨w.heap.size, 1, none⟩) (by show w.heap.size < _; omega)).trans (by rw [r0.cell]; rfl), (hW.cell (p := ⟨w.heap.size, 2, none⟩) (by show w.heap.size < _; omega)).trans (by rw [r0.cell]; rfl), (hW.cell (p := ⟨w.heap.size, 3, none⟩) (by show w.heap.size < _; omega)).trans (by rw [r0.cell]; rfl), (hW.cell (p := ⟨bg, og + fr, none⟩) (by have := b0.size; show bg < _; omega)).trans cg0⟩)
  have hS2 : Hid (∀ (W : World) (x0 x1 x2 x3 : Value), (fun W : World => W.cell? ⟨w.heap.size, 0, none⟩ = some (.slice (some ⟨bo, oo, none⟩) n co) ∧ W.cell? ⟨w.heap.size, 1, none⟩ = some (.slice (some ⟨bg, og, none⟩) n cg) ∧ W.cell? ⟨w.heap.size, 2, none⟩ = some (.slice Ac cl.length cc) ∧ W.cell? ⟨w.heap.size, 3, none⟩ = some (.int .i64 ((fr : Int) + 1)) ∧ W.cell? ⟨bg, og + fr, none⟩ = some (.int .i64 gp)) W → (fun W : World => W.cell? ⟨w.heap.size, 0, none⟩ = some (.slice (some ⟨bo, oo, none⟩) n co) ∧ W.cell? ⟨w.heap.size, 1, none⟩ = some (.slice (some ⟨bg, og, none⟩) n cg) ∧ W.cell? ⟨w.heap.size, 2, none⟩ = some (.slice Ac cl.length cc) ∧ W.cell? ⟨w.heap.size, 3, none⟩ = some (.int .i64 ((fr : Int) + 1)) ∧ W.cell? ⟨bg, og + fr, none⟩ = some (.int .i64 gp)) ((((W.setCell ⟨w.heap.size + 1, 0, none⟩ x0).setCell ⟨w.heap.size + 1, 1, none⟩ x1).setCell ⟨w.heap.size + 1, 2, none⟩ x2).setCell ⟨w.heap.size + 1, 3, none⟩ x3)) := Lib.hid (fun W x0 x1 x2 x3 hW => ⟨set4_cell hW.1 (by omega) _ _ _ _, set4_cell hW.2.1 (by omega) _ _ _ _, set4_cell hW.2.2.1 (by omega) _ _ _ _, set4_cell hW.2.2.2.1 (by omega) _ _ _ _, set4_cell hW.2.2.2.2 (by omega) _ _ _ _⟩)
  have HC : Hid (∀ W, Below W0.heap.size W0 W → Calls Try.prog 151 #[.agg #[.slice (some ⟨bo, oo, none⟩) n co, .slice (some ⟨bg, og, none⟩) n cg, .slice Ac cl.length cc, .int .i64 ((fr : Int) + 1)], .int .i64 (fr : Int), .bool true] W (GWith n cl.length cc Ac ((fr : Int) + 1) ((openL n O).set fr true) g W)) := Lib.hid (fun W hW => ref06_with fr true hpn hn ((H1.out.keep b0).keep hW) ((H2.out.keep b0).keep hW))
  have HT : Hid (∀ k, k < W0.heap.size → ∀ W, Below W0.heap.size W0 W → W.heap[k]? = W0.heap[k]?) := Lib.hid (fun k hk W hW => hW.block k hk)
  have HSR : Hid (∀ W, Below W0.heap.size W0 W → RowAt W (w.heap.size + 1) 56 [.slice none 0 0, .slice none 0 0, .slice none 0 0, .int .i64 0]) := Lib.hid (fun W hW => s0.keep hW)
  have HB0 := Lib.hid b0
  clear r0 s0 cg0 cgp
  refine wp_region_held_drew (S := (fun W : World => W.cell? ⟨w.heap.size, 0, none⟩ = some (.slice (some ⟨bo, oo, none⟩) n co) ∧ W.cell? ⟨w.heap.size, 1, none⟩ = some (.slice (some ⟨bg, og, none⟩) n cg) ∧ W.cell? ⟨w.heap.size, 2, none⟩ = some (.slice Ac cl.length cc) ∧ W.cell? ⟨w.heap.size, 3, none⟩ = some (.int .i64 ((fr : Int) + 1)) ∧ W.cell? ⟨bg, og + fr, none⟩ = some (.int .i64 gp))) (by kernel_rfl) ?_ (fun hHeld => ?_)
  focus ((try dsimp only); first | exact q | exact hS2.out _ _ _ _ _ q | exact hS.out _ (by repeat (first | exact Below.refl _ _ | assumption | refine bel_drew ?_ | refine bel_drewN ?_ _ | refine bel_alloc ?_ _ | refine bel_trans ?_ (by assumption))))
  refine tk_yes 0 (v := ?_) rfl (by kernel_rfl) (by kernel_rfl) (by kernel_rfl) (fun _ _ _ h => h) (by kernel_rfl) (by assumption) ?_ ?_; rotate_left; (focus (intro w hSw; (try dsimp only at hSw); go_simp; (first | done | (with_reducible rfl)))); (try simp only [Act.put, List.setIfInBounds_toArray, List.set_cons_zero, List.set_cons_succ])
  refine tk_yes 1 (v := ?_) rfl (by kernel_rfl) (by kernel_rfl) (by kernel_rfl) (fun _ _ _ h => h) (by kernel_rfl) (by assumption) ?_ ?_; rotate_left; (focus (intro w hSw; (try dsimp only at hSw); go_simp; (first | done | (with_reducible rfl)))); (try simp only [Act.put, List.setIfInBounds_toArray, List.set_cons_zero, List.set_cons_succ])
  refine tk_yes 3 (v := ?_) rfl (by kernel_rfl) (by kernel_rfl) (by kernel_rfl) (fun _ _ _ h => h) (by kernel_rfl) (by assumption) ?_ ?_; rotate_left; (focus (intro w hSw; (try dsimp only at hSw); go_simp; (first | done | (with_reducible rfl)))); (try simp only [Act.put, List.setIfInBounds_toArray, List.set_cons_zero, List.set_cons_succ])
  refine tk_yes 4 (v := ?_) rfl (by kernel_rfl) (by kernel_rfl) (by kernel_rfl) (fun _ _ _ h => h) (by kernel_rfl) (by assumption) ?_ ?_; rotate_left; (focus (intro w hSw; (try dsimp only at hSw); go_simp; (first | done | (with_reducible rfl)))); (try simp only [Act.put, List.setIfInBounds_toArray, List.set_cons_zero, List.set_cons_succ])
  refine tk_yes 5 (v := ?_) rfl (by kernel_rfl) (by kernel_rfl) (by kernel_rfl) (fun _ _ _ h => h) (by kernel_rfl) (by assumption) ?_ ?_; rotate_left; (focus (intro w hSw; (try dsimp only at hSw); go_simp; (first | done | (with_reducible rfl)))); (try simp only [Act.put, List.setIfInBounds_toArray, List.set_cons_zero, List.set_cons_succ])
  refine tk_yes 6 (v := ?_) rfl (by kernel_rfl) (by kernel_rfl) (by kernel_rfl) (fun _ _ _ h => h) (by kernel_rfl) (by assumption) ?_ ?_; rotate_left; (focus (intro w hSw; (try dsimp only at hSw); go_simp; (first | done | (with_reducible rfl)))); (try simp only [Act.put, List.setIfInBounds_toArray, List.set_cons_zero, List.set_cons_succ])
  refine tk_yes 7 (v := ?_) rfl (by kernel_rfl) (by kernel_rfl) (by kernel_rfl) (fun _ _ _ h => h) (by kernel_rfl) (by assumption) ?_ ?_; rotate_left; (focus (intro w hSw; (try dsimp only at hSw); go_simp; (first | done | (with_reducible rfl)))); (try simp only [Act.put, List.setIfInBounds_toArray, List.set_cons_zero, List.set_cons_succ])
  refine tk_yes 8 (v := ?_) rfl (by kernel_rfl) (by kernel_rfl) (by kernel_rfl) (fun _ _ _ h => h) (by kernel_rfl) (by assumption) ?_ ?_; rotate_left; (focus (intro w hSw; (try dsimp only at hSw); go_simp; (first | done | (with_reducible rfl)))); (try simp only [Act.put, List.setIfInBounds_toArray, List.set_cons_zero, List.set_cons_succ])
  refine tk_call 2 rfl (by kernel_rfl) (by kernel_rfl) (fun KW hKW => ?_); go_simp; go_at_call 151; refine (HC.out _ (by repeat (first | exact Below.refl _ _ | assumption | refine bel_drew ?_ | refine bel_drewN ?_ _ | refine bel_alloc ?_ _ | refine bel_trans ?_ (by assumption)))).mono ?_; rintro e u1 hgw; have hb1 := gwith_below hgw; have hbb := bel_to (W0 := W0) (by repeat (first | exact Below.refl _ _ | assumption | refine bel_drew ?_ | refine bel_drewN ?_ _ | refine bel_alloc ?_ _ | refine bel_trans ?_ (by assumption))) (undrew hb1); have HG := Lib.hid hgw; obtain ⟨go, cpo, gg, cpg, rfl, -, -, -, -⟩ := hgw; have q := hS.out _ hbb; have s1 := HSR.out _ hbb; have e0 := (s1.cell 0).trans rfl; have e1 := (s1.cell 1).trans rfl; have e2 := (s1.cell 2).trans rfl; have e3 := (s1.cell 3).trans rfl; have f0 := s1.frozen 0; have f1 := s1.frozen 1; have f2 := s1.frozen 2; have f3 := s1.frozen 3; clear hb1; refine hKW.out _ _ ?_ (fun hHeld => ?_); (focus ((try dsimp only); first | exact q | exact hS2.out _ _ _ _ _ q | exact hS.out _ (by repeat (first | exact Below.refl _ _ | assumption | refine bel_drew ?_ | refine bel_drewN ?_ _ | refine bel_alloc ?_ _ | refine bel_trans ?_ (by assumption))))); clear hKW KW; (try simp only [Act.put, List.setIfInBounds_toArray, List.set_cons_zero, List.set_cons_succ])
  refine tk_call 9 rfl (by kernel_rfl) (by kernel_rfl) (fun KW hKW => ?_); go_simp; refine hKW.out _ _ ?_ (fun hHeld => ?_); (focus ((try dsimp only); first | exact q | exact hS2.out _ _ _ _ _ q | exact hS.out _ (by repeat (first | exact Below.refl _ _ | assumption | refine bel_drew ?_ | refine bel_drewN ?_ _ | refine bel_alloc ?_ _ | refine bel_trans ?_ (by assumption))))); clear hKW KW; (try simp only [Act.put, List.setIfInBounds_toArray, List.set_cons_zero, List.set_cons_succ])
  refine tk_yes 10 (v := ?_) rfl (by kernel_rfl) (by kernel_rfl) (by kernel_rfl) (fun _ _ _ h => h) (by kernel_rfl) (by assumption) ?_ ?_; rotate_left; (focus (intro w hSw; (try dsimp only at hSw); go_simp; (first | done | (with_reducible rfl)))); (try simp only [Act.put, List.setIfInBounds_toArray, List.set_cons_zero, List.set_cons_succ])
  refine tk_yes 11 (v := ?_) rfl (by kernel_rfl) (by kernel_rfl) (by kernel_rfl) (fun _ _ _ h => h) (by kernel_rfl) (by assumption) ?_ ?_; rotate_left; (focus (intro w hSw; (try dsimp only at hSw); go_simp; (first | done | (with_reducible rfl)))); (try simp only [Act.put, List.setIfInBounds_toArray, List.set_cons_zero, List.set_cons_succ])
  refine tk_yes 12 (v := ?_) rfl (by kernel_rfl) (by kernel_rfl) (by kernel_rfl) (fun _ _ _ h => h) (by kernel_rfl) (by assumption) ?_ ?_; rotate_left; (focus (intro w hSw; (try dsimp only at hSw); go_simp; (first | done | (with_reducible rfl)))); (try simp only [Act.put, List.setIfInBounds_toArray, List.set_cons_zero, List.set_cons_succ])
  refine wpAnyH_done (by kernel_rfl) ?_ _
  go_wp2_with fail
  obtain ⟨q0, q1, q2, q3, q4⟩ := q
  refine bodyPost_ret (v := .tuple #[.agg #[.slice (some ⟨go, 0, none⟩) n cpo, .slice (some ⟨gg, 0, none⟩) n cpg, .slice Ac cl.length cc, .int .i64 ((fr : Int) + 1)], .int .i64 (fr : Int), .int .i64 gp, .bool true]) (by simp [results, Try.results117, go_sem, e0, e1, e2, e3]) rfl ?_
  rw [← HGP.out]
  exact ⟨_, rfl, open_end HP.out HB0.out (Nat.le_succ _) z0 rfl rfl H3.out HG.out rfl⟩

theorem ref06_OpenOne {p : Nat} {cl' : List Nat} {fr' : Nat} (hp : pickP cl fr n = some (p, cl', fr')) (hi : SlInv n O cl fr) (hn : n ≤ 4096) (hP : ∀ b, w.heap.size ≤ b → P b) (h : RefS P w V n g O cl fr) :
    Calls Try.prog 117 #[V] w (GOpen P n g O p cl' fr' w) := by
  by_cases h0 : cl.length ≠ 0
  · exact ref06_OpenOne_A hp hi hn hP h h0
  · exact ref06_OpenOne_B hp hi hn hP h h0
end Go.Proofs.Ytdhcmnbajkpjiaa
/-
  The reference's slots in memory: Close, New.
-/
namespace Go.Proofs.Ytdhcmnbajkpjiaa
open Go.RowKit
open Go.Maps
set_option linter.unusedVariables false
set_option linter.unusedSimpArgs false
attribute [local go_sem] drewN_alloc drewN_setCell

variable {P : Nat → Prop} {w w' : World} {V : Value} {n : Nat} {g : List Int} {O cl : List Nat} {fr : Nat}
theorem vat_row {t : TypeId} {b m : Nat} {vs : List Value} (h : RowAt w b t vs) (hP : P b) (hm : vs.length = m) (hx : m ≤ 9223372036854775807) : VAt P w (some ⟨b, 0, none⟩) m m vs :=
  ⟨hm, Nat.le_refl _, hx, fun _ => ⟨b, 0, rfl, hP, h.lt, fun i u hu => by rw [Nat.zero_add, h.cell]; exact hu⟩⟩
theorem own_alloc {B : Nat} {v : Value} {l : List Int} (h : OwnI B w v l) (o : Obj) : OwnI B (w.alloc o) v l := h.of_block (fun k hk => Below.heap_alloc _ _ _ (World.ownsRow.lt h k hk).2)
theorem src_new (w : World) (x : Int) : SrcS 1 (w.alloc (.cells #[.int .i64 x] 3)) (some ⟨w.heap.size, 0, none⟩) 1 (cellsI [x]) := src_oneN (by simp [go_sem])
theorem le_alloc2 {B : Nat} {o : Obj} (h : B + 1 ≤ w.heap.size) : B ≤ (w.alloc o).heap.size := by simp; omega
/-- What Close hands back. -/
def GClose (P : Nat → Prop) (n : Nat) (g : List Int) (O cl : List Nat) (fr p : Nat) (y : Int) (w : World) (e : Ending) (w' : World) : Prop :=
  ∃ V', e = .returned (.tuple #[V', .bool true]) ∧ RefS P w' V' n (g.set p (IntKind.i64.wrap (y + 1))) (O.erase p) (cl ++ [p]) fr ∧ Below w.heap.size w w'
theorem gwith_fix {m cc : Nat} {Ac : Option Addr} {f : Int} {bs : List Bool} {W u1 : World} {go gg cpo cpg : Nat} (h : GWith n m cc Ac f bs g W (.returned (.agg #[.slice (some ⟨go, 0, none⟩) n cpo, .slice (some ⟨gg, 0, none⟩) n cpg, .slice Ac m cc, .int .i64 f])) u1) :
    u1.ownsRow W.heap.size 4 1 (.slice (some ⟨go, 0, none⟩) n cpo) n (cellsB bs) ∧ u1.ownsRow W.heap.size 3 1 (.slice (some ⟨gg, 0, none⟩) n cpg) n (cellsI g) ∧ go ≠ gg ∧ Below W.heap.size W u1 := by
  obtain ⟨go', cpo', gg', cpg', e, h1, h2, hne, hb⟩ := h
  simp only [Ending.returned.injEq, Value.agg.injEq, Array.mk.injEq, List.cons.injEq, Value.slice.injEq, Option.some.injEq, Addr.mk.injEq, and_true, true_and] at e
  obtain ⟨⟨rfl, rfl⟩, ⟨rfl, rfl⟩⟩ := e
  exact ⟨h1, h2, hne, hb⟩
set_option maxRecDepth 100000 in
set_option maxHeartbeats 4000000 in
theorem ref06_Close (p : Nat) (y : Int) (hr : rightB O g (p : Int) y = true) (hi : SlInv n O cl fr) (hn : n ≤ 4096) (hP : ∀ b, w.heap.size ≤ b → P b) (h : RefS P w V n g O cl fr) :
    Calls Try.prog 111 #[V, .int .i64 (p : Int), .int .i64 y] w (GClose P n g O cl fr p y w) := by
  have hr2 := hr
  unfold rightB at hr2
  simp only [Bool.and_eq_true, decide_eq_true_eq] at hr2
  have hp : p ∈ O := in_ints.1 hr2.1
  have hpf := hi.o2 p hp
  have hf1 := hi.f1
  have hpn : p < n := by omega
  have hcl := hi.cl_len
  have K1 : ∀ W, Below w.heap.size w W → Calls Try.prog 118 #[V, .int .i64 (p : Int), .int .i64 y] W fun e w' => e = .returned (.bool true) ∧ Below W.heap.size W w' := fun W hW => by
    have := ref06_Right (p : Int) y (h.keep hW) (fun q hq => by have := hi.o2 q hq; omega)
    rwa [hr] at this
  have hO := Lib.hid hi.o1
  obtain ⟨Ao, co, Ag, cg, Ac, cc, rfl, h1, h2, h3⟩ := h
  have K2 : Hid (∀ W, Below w.heap.size w W → Calls Try.prog 151 #[.agg #[.slice Ao n co, .slice Ag n cg, .slice Ac cl.length cc, .int .i64 (fr : Int)], .int .i64 (p : Int), .bool false] W (GWith n cl.length cc Ac (fr : Int) ((openL n O).set p false) g W)) := Lib.hid (fun W hW => ref06_with p false hpn hn (h1.keep hW) (h2.keep hW))
  replace K1 := Lib.hid K1
  have hgl : g.length = n := by have := h2.1; simpa [cellsI] using this
  have HGL := Lib.hid hgl
  have H3 := Lib.hid h3
  have HP := Lib.hid hP
  have hcl2 : cl.length ≤ 4096 := by omega
  obtain ⟨m, hm⟩ : ∃ m, cl.length = m := ⟨_, rfl⟩
  rw [hm] at K1 K2 H3 hcl2 ⊢
  have HM := Lib.hid hm
  obtain ⟨z, hz⟩ : ∃ z, IntKind.i64.wrap (y + 1) = z := ⟨_, rfl⟩
  have HZ := Lib.hid hz
  have j5 : (0 : Int) ≤ (p : Int) := by omega
  have j6 : (p : Int) < (n : Int) := by omega
  have HPN := Lib.hid hpn
  clear h1 h2 h3 hi hgl hP hr hr2 hp hpf hf1 hcl hm
  go_enter Try.func111, Try.ntmps111
  go_upto_region 1 with (fail)
  refine region_name ?_
  rintro W0 hW0
  have r0 : RowAt W0 w.heap.size 56 [.slice Ao n co, .slice Ag n cg, .slice Ac m cc, .int .i64 (fr : Int)] := by
    rw [hW0]; exact (RowAt.new w 56 _).alloc _
  have s0 : RowAt W0 (w.heap.size + 1) 56 [.slice none 0 0, .slice none 0 0, .slice none 0 0, .int .i64 0] := by
    rw [hW0]
    have := RowAt.new (w.alloc (.cells #[.slice Ao n co, .slice Ag n cg, .slice Ac m cc, .int .i64 (fr : Int)] 56)) 56 [.slice none 0 0, .slice none 0 0, .slice none 0 0, .int .i64 0]
    simpa using this
  have b0 : Below w.heap.size w W0 := by rw [hW0]; exact (by repeat (first | exact Below.refl _ _ | assumption | refine bel_drew ?_ | refine bel_drewN ?_ _ | refine bel_alloc ?_ _ | refine bel_set ?_ (by first | (dsimp only; omega) | (simp; done) | (simp; omega)) _ | refine bel_trans ?_ (by assumption)))
  have z0 : w.heap.size + 2 ≤ W0.heap.size := by rw [hW0]; simp
  clear hW0
  have c0 : W0.cell? ⟨w.heap.size, 0, none⟩ = some (.slice Ao n co) := by rw [r0.cell]; rfl
  have c1 : W0.cell? ⟨w.heap.size, 1, none⟩ = some (.slice Ag n cg) := by rw [r0.cell]; rfl
  have c2 : W0.cell? ⟨w.heap.size, 2, none⟩ = some (.slice Ac m cc) := by rw [r0.cell]; rfl
  have c3 : W0.cell? ⟨w.heap.size, 3, none⟩ = some (.int .i64 (fr : Int)) := by rw [r0.cell]; rfl
  go_wp2_with fail
  refine (K1.out _ b0).mono ?_
  rintro e w1 ⟨rfl, h1⟩
  have r1 := r0.keep h1
  have s1 := s0.keep h1
  have b1 := bel_trans b0 h1
  have z1 := Nat.le_trans z0 h1.size
  clear c0 c1 c2 c3 r0 s0 b0 h1 z0
  have c0 : w1.cell? ⟨w.heap.size, 0, none⟩ = some (.slice Ao n co) := by rw [r1.cell]; rfl
  have c1 : w1.cell? ⟨w.heap.size, 1, none⟩ = some (.slice Ag n cg) := by rw [r1.cell]; rfl
  have c2 : w1.cell? ⟨w.heap.size, 2, none⟩ = some (.slice Ac m cc) := by rw [r1.cell]; rfl
  have c3 : w1.cell? ⟨w.heap.size, 3, none⟩ = some (.int .i64 (fr : Int)) := by rw [r1.cell]; rfl
  go_wp2_with fail
  refine (K2.out _ b1).mono ?_
  rintro e u1 hgw
  have hbw := gwith_below hgw
  have hgw2 := hgw
  obtain ⟨go, cpo, gg, cpg, rfl, -⟩ := hgw
  obtain ⟨o2, g2, hne, -⟩ := gwith_fix hgw2
  have r2 := r1.keep hbw
  have s2 := s1.keep hbw
  have b2 := bel_trans b1 hbw
  have z2 := Nat.le_trans z1 hbw.size
  have lgo := World.ownsRow.lt o2 go rfl
  have lgg := World.ownsRow.lt g2 gg rfl
  have lgo1 := lgo.1
  have lgo2 := lgo.2
  have lgg1 := lgg.1
  have lgg2 := lgg.2
  have hpl : p < g.length := by have := HGL.out; have := HPN.out; omega
  have x2 : u1.cell? ⟨gg, p, none⟩ = some (.int .i64 (g.getD p 0)) := by
    rw [World.ownsRow.cellAt g2 p (by have := HPN.out; omega)]
    exact cellsI_at hpl
  have hfz : u1.frozen? ⟨gg, p, none⟩ = false := World.ownsRow.frozenAt g2 p
  generalize g.getD p 0 = gp at x2
  clear c0 c1 c2 c3 r1 s1 b1 hbw hgw2 lgo lgg hpl
  go_upto_region 5 with (fail)
  refine region_name ?_
  rintro W4 hW4
  have lt8 : u1.heap.size < W4.heap.size := by rw [hW4]; simp
  have r4 : RowAt W4 u1.heap.size 56 [.slice (some ⟨go, 0, none⟩) n cpo, .slice (some ⟨gg, 0, none⟩) n cpg, .slice Ac m cc, .int .i64 (fr : Int)] := by
    rw [hW4]
    have := RowAt.new (u1.setCell ⟨gg, p, none⟩ (.int .i64 z)) 56 [.slice (some ⟨go, 0, none⟩) n cpo, .slice (some ⟨gg, 0, none⟩) n cpg, .slice Ac m cc, .int .i64 (fr : Int)]
    simpa using this
  have q4 : RowAt W4 w.heap.size 56 [.slice Ao n co, .slice Ag n cg, .slice Ac m cc, .int .i64 (fr : Int)] := by rw [hW4]; exact (r2.far (by show w.heap.size ≠ gg; omega) _).alloc _
  have s4 : RowAt W4 (w.heap.size + 1) 56 [.slice none 0 0, .slice none 0 0, .slice none 0 0, .int .i64 0] := by rw [hW4]; exact (s2.far (by show w.heap.size + 1 ≠ gg; omega) _).alloc _
  have g4 : W4.ownsRow w1.heap.size 3 1 (.slice (some ⟨gg, 0, none⟩) n cpg) n (cellsI (g.set p z)) := by
    rw [hW4]
    have e : cellsI (g.set p z) = (cellsI g).set p (.int .i64 z) := by unfold cellsI; rw [List.map_set]
    rw [e]
    exact own_of_block (g2.stored p (.int .i64 z)).1 (fun k hk => Below.heap_alloc _ _ _ (World.ownsRow.lt (g2.stored p (.int .i64 z)).1 k hk).2)
  have o4 : W4.ownsRow w1.heap.size 4 1 (.slice (some ⟨go, 0, none⟩) n cpo) n (cellsB ((openL n O).set p false)) := by
    rw [hW4]
    refine own_of_block o2 (fun k hk => (Below.heap_alloc _ _ _ (by have := (World.ownsRow.lt o2 k hk).2; simpa using this)).trans (Below.heap_setCell _ _ _ _ ?_))
    have e : go = k := by simpa [Value.ownBlock] using hk
    show k ≠ gg
    omega
  have b4 : Below w.heap.size w W4 := by rw [hW4]; exact (b2.setCell (by show w.heap.size ≤ gg; omega) _).alloc (by have := b2.size; simpa using this) _
  clear hW4 r2 s2 o2 g2 b2 x2 hfz
  have z4 : W4.heap.size ≤ W4.heap.size := Nat.le_refl _
  have c2 : W4.cell? ⟨w.heap.size, 2, none⟩ = some (.slice Ac m cc) := by rw [q4.cell]; rfl
  have c2a : (W4.alloc (.cells #[] 3)).cell? ⟨w.heap.size, 2, none⟩ = some (.slice Ac m cc) := by rw [(q4.alloc _).cell]; rfl
  have HSA : Hid (SrcS 1 (W4.alloc (.cells #[] 3)) Ac m (cellsI (ints cl))) := Lib.hid ((H3.out.keep b4).keep (bel_alloc (Below.refl _ _) _)).src
  have HN1 : Hid (([] : List Int).length + m ≤ 1048576) := Lib.hid (by simp; omega)
  have HN2 : Hid (([] ++ ints cl : List Int).length + 1 ≤ 1048576) := Lib.hid (by have := HM.out; simp [ints]; omega)
  have HARM : Hid (∀ (v5 v6 : Value) (w5 w6 : World), OwnI W4.heap.size w5 v5 ([] ++ ints cl) → (W4.alloc (.cells #[] 3)).grownBy w5 (some W4.heap.size) → (w5.alloc (.cells #[.int .i64 (p : Int)] 3)).grownBy w6 v5.ownBlock → OwnI W4.heap.size w6 v6 ([] ++ ints cl ++ [(p : Int)]) →
      RowAt w6 u1.heap.size 56 [.slice (some ⟨go, 0, none⟩) n cpo, .slice (some ⟨gg, 0, none⟩) n cpg, .slice Ac m cc, .int .i64 (fr : Int)] ∧ RowAt w6 (w.heap.size + 1) 56 [.slice none 0 0, .slice none 0 0, .slice none 0 0, .int .i64 0] ∧ w6.ownsRow w1.heap.size 3 1 (.slice (some ⟨gg, 0, none⟩) n cpg) n (cellsI (g.set p z)) ∧ w6.ownsRow w1.heap.size 4 1 (.slice (some ⟨go, 0, none⟩) n cpo) n (cellsB ((openL n O).set p false)) ∧ Below w.heap.size w w6 ∧ W4.heap.size ≤ w6.heap.size) := Lib.hid (fun v5 v6 w5 w6 hv5 hg5 hg6 hv6 => by
    have z5 := hg5.size
    have z6 := hg6.size
    simp only [World.size_alloc] at z5 z6
    have blk : ∀ k, k < W4.heap.size → w6.heap[k]? = W4.heap[k]? := fun k hk => ((hg6.block k (by simp; omega) (fun e => by have := (World.ownsRow.lt hv5 k e.symm).1; omega)).trans (Below.heap_alloc _ _ _ (by omega))).trans ((hg5.block k (by simp; omega) (fun e => by cases e; omega)).trans (Below.heap_alloc _ _ _ hk))
    refine ⟨r4.of_block (blk _ r4.lt), s4.of_block (blk _ s4.lt), own_of_block g4 (fun k hk => blk k (World.ownsRow.lt g4 k hk).2), own_of_block o4 (fun k hk => blk k (World.ownsRow.lt o4 k hk).2), ?_, by omega⟩
    have b5 := (b4.alloc b4.size (.cells #[] 3)).grown hg5 (by have := b4.size; simp; omega) (fun k hk => by cases hk; exact b4.size)
    exact (b5.alloc b5.size (.cells #[.int .i64 (p : Int)] 3)).grown hg6 (by have := b5.size; simp; omega) (fun k hk => by have := (World.ownsRow.lt hv5 k hk).1; have := b4.size; omega))
  go_upto_region 6 with (first
    | (at_builtin; refine app_listG rfl (.tmp 24) (.tmp 26) rfl W4.heap.size (.slice (some ⟨W4.heap.size, 0, none⟩) 0 0) [] rfl (own_emptyI W4) Ac m cc (ints cl) rfl HSA.out HN1.out (le_alloc W4 _) ?_; intro v5 w5 ho5 hg5 hor5; have ho5a := own_alloc ho5 (.cells #[.int .i64 (p : Int)] 3); have zz5 := grown_size hg5)
    | (at_builtin; refine app_listG rfl (.tmp 27) (.tmp 29) rfl W4.heap.size v5 ([] ++ ints cl) rfl ho5a (some ⟨w5.heap.size, 0, none⟩) 1 1 [(p : Int)] rfl (src_new w5 (p : Int)) HN2.out (le_alloc2 zz5) ?_; intro v6 w6 ho6 hg6 hor6; obtain ⟨r6, s6, g6, o6, b6, z6⟩ := HARM.out v5 v6 w5 w6 ho5 hg5 hg6 ho6; obtain ⟨A6, cp6, rfl, h6a, h6b, h6c⟩ := ho6.ints; have d6 : w6.cell? ⟨u1.heap.size, 2, none⟩ = some (.slice Ac m cc) := (r6.cell 2).trans rfl; have f6 := r6.frozen 2; clear hg6 hor6 hg5 hor5 ho5))
  refine region_name ?_
  rintro W6 hW6
  have eL : ([] ++ ints cl ++ [(p : Int)] : List Int) = ints (cl ++ [p]) := by simp [ints]
  have eM : (ints (cl ++ [p])).length = m + 1 := by have := HM.out; simp [ints]; omega
  have eM2 : (ints cl).length + 1 = m + 1 := by have := HM.out; simp [ints]; omega
  rw [eM2] at hW6
  rw [eL, eM] at ho6
  have r7 : RowAt W6 u1.heap.size 56 [.slice (some ⟨go, 0, none⟩) n cpo, .slice (some ⟨gg, 0, none⟩) n cpg, .slice A6 (m + 1) cp6, .int .i64 (fr : Int)] := by rw [hW6]; exact r6.set_ 2 _
  have s7 : RowAt W6 (w.heap.size + 1) 56 [.slice none 0 0, .slice none 0 0, .slice none 0 0, .int .i64 0] := by rw [hW6]; exact s6.far (by show w.heap.size + 1 ≠ u1.heap.size; omega) _
  have far : ∀ k, k ≠ u1.heap.size → W6.heap[k]? = w6.heap[k]? := fun k hk => by rw [hW6]; exact Below.heap_setCell _ _ _ _ hk
  have g7 := own_of_block g6 (fun k hk => far k (by
    have e : gg = k := by simpa [Value.ownBlock] using hk
    omega))
  have o7 := own_of_block o6 (fun k hk => far k (by
    have e : go = k := by simpa [Value.ownBlock] using hk
    omega))
  have b7 : Below w.heap.size w W6 := by rw [hW6]; exact b6.setCell (by show w.heap.size ≤ u1.heap.size; omega) _
  have v7 : VAt (fun b => P b ∧ w.heap.size + 2 ≤ b) W6 A6 (m + 1) cp6 (cellsI (ints (cl ++ [p]))) := by
    have ho := ho6
    unfold OwnI at ho
    rw [eM] at ho
    exact own_vat (own_of_block ho (fun k hk => far k (by have := (World.ownsRow.lt ho k hk).1; omega))) (fun b hb => ⟨HP.out b (by have := b4.size; omega), by omega⟩)
  have zw1 : w.heap.size ≤ w1.heap.size := by omega
  clear hW6 r6 s6 g6 o6 b6 d6 f6 ho6 HARM HSA r4 q4 s4 g4 o4 b4 c2 c2a eL eM eM2 h6a h6b h6c
  have d0 : W6.cell? ⟨u1.heap.size, 0, none⟩ = some (.slice (some ⟨go, 0, none⟩) n cpo) := by rw [r7.cell]; rfl
  have d1 : W6.cell? ⟨u1.heap.size, 1, none⟩ = some (.slice (some ⟨gg, 0, none⟩) n cpg) := by rw [r7.cell]; rfl
  have d2 : W6.cell? ⟨u1.heap.size, 2, none⟩ = some (.slice A6 (m + 1) cp6) := by rw [r7.cell]; rfl
  have d3 : W6.cell? ⟨u1.heap.size, 3, none⟩ = some (.int .i64 (fr : Int)) := by rw [r7.cell]; rfl
  have e0 : W6.cell? ⟨w.heap.size + 1, 0, none⟩ = some (.slice none 0 0) := by rw [s7.cell]; rfl
  have e1 : W6.cell? ⟨w.heap.size + 1, 1, none⟩ = some (.slice none 0 0) := by rw [s7.cell]; rfl
  have e2 : W6.cell? ⟨w.heap.size + 1, 2, none⟩ = some (.slice none 0 0) := by rw [s7.cell]; rfl
  have e3 : W6.cell? ⟨w.heap.size + 1, 3, none⟩ = some (.int .i64 0) := by rw [s7.cell]; rfl
  have f0 := s7.frozen 0
  have f1 := s7.frozen 1
  have f2 := s7.frozen 2
  have f3 := s7.frozen 3
  have zne : ¬ u1.heap.size = w.heap.size + 1 := by omega
  go_wp2_with fail
  refine bodyPost_ret (v := .tuple #[.agg #[.slice (some ⟨go, 0, none⟩) n cpo, .slice (some ⟨gg, 0, none⟩) n cpg, .slice A6 (m + 1) cp6, .int .i64 (fr : Int)], .bool true]) (by simp [results, Try.results111, go_sem, e0, e1, e2, e3]) rfl ?_
  have hb : Below w.heap.size w ((((W6.setCell ⟨w.heap.size + 1, 0, none⟩ (.slice (some ⟨go, 0, none⟩) n cpo)).setCell ⟨w.heap.size + 1, 1, none⟩ (.slice (some ⟨gg, 0, none⟩) n cpg)).setCell ⟨w.heap.size + 1, 2, none⟩ (.slice A6 (m + 1) cp6)).setCell ⟨w.heap.size + 1, 3, none⟩ (.int .i64 (fr : Int))) := set4_below b7 (by omega) _ _ _ _
  unfold GClose
  rw [HZ.out]
  refine ⟨_, rfl, ⟨some ⟨go, 0, none⟩, cpo, some ⟨gg, 0, none⟩, cpg, A6, cp6, by rw [List.length_append, HM.out]; rfl, ?_, ?_, ?_⟩, hb⟩
  · rw [← openL_erase hO.out]
    exact own_vat (own_of_block o7 (fun k hk => set4_block _ _ _ _ _ _ _ (by have := (World.ownsRow.lt o7 k hk).1; omega))) (fun b hb' => HP.out b (by omega))
  · exact own_vat (own_of_block g7 (fun k hk => set4_block _ _ _ _ _ _ _ (by have := (World.ownsRow.lt g7 k hk).1; omega))) (fun b hb' => HP.out b (by omega))
  · rw [List.length_append, HM.out]
    exact (v7.blocks (by simp) (fun b _ hb => set4_block _ _ _ _ _ _ _ (by omega))).mono (fun b _ hb => hb.1)
end Go.Proofs.Ytdhcmnbajkpjiaa
/-
  The reference's forest in memory: New, Children, Next; the law's first.
-/
namespace Go.Proofs.Ytdhcmnbajkpjiaa
open Go.RowKit
open Go.Maps
set_option linter.unusedVariables false
set_option linter.unusedSimpArgs false
attribute [local go_sem] drewN_alloc drewN_setCell

variable {P : Nat → Prop} {w w' : World} {V : Value} {n : Nat} {g : List Int} {O cl : List Nat} {fr : Nat} {N : List Nat} {up : List Int}
/-- Cells of a block from k on, stored one behind the other. -/
def setRow (W : World) (b : Nat) : Nat → List Value → World
  | _, [] => W
  | k, v :: vs => setRow (W.setCell ⟨b, k, none⟩ v) b (k + 1) vs
theorem setRow_block (b j : Nat) (hj : j ≠ b) : ∀ (vs : List Value) (k : Nat) (W : World), (setRow W b k vs).heap[j]? = W.heap[j]?
  | [], _, _ => rfl
  | v :: vs, k, W => (setRow_block b j hj vs (k + 1) _).trans (Below.heap_setCell _ _ _ _ hj)
theorem setRow_below {b : Nat} {w0 : World} (hb : w0.heap.size ≤ b) : ∀ (vs : List Value) (k : Nat) (W : World), Below w0.heap.size w0 W → Below w0.heap.size w0 (setRow W b k vs)
  | [], _, _, h => h
  | v :: vs, k, W, h => setRow_below hb vs (k + 1) _ (h.setCell hb _)
theorem setRow_size (b : Nat) : ∀ (vs : List Value) (k : Nat) (W : World), (setRow W b k vs).heap.size = W.heap.size
  | [], _, _ => rfl
  | v :: vs, k, W => (setRow_size b vs (k + 1) _).trans (by simp)
theorem made_bools (n : Nat) : madeCells #[Value.bool false] n = ((List.replicate n false).map Value.bool).toArray := by
  apply Array.ext_getElem?
  intro i
  by_cases hi : i < n
  · simp [madeCells, hi, Nat.mod_one]
  · simp [madeCells, hi]
theorem openL_nil (n : Nat) : List.replicate n false = openL n [] := by
  apply List.ext_getElem?
  intro i
  by_cases h : i < n
  · simp [openL, h]
  · simp [openL, h]
/-- What New hands back. -/
def GNew6 (P : Nat → Prop) (n : Nat) (w : World) (e : Ending) (w' : World) : Prop := ∃ V, e = .returned V ∧ RefS P w' V n (List.replicate n 0) [] [] 0 ∧ Below w.heap.size w w'
set_option maxRecDepth 100000 in
set_option maxHeartbeats 2000000 in
theorem ref06_New (n : Nat) (hn : n ≤ 4096) (hP : ∀ b, w.heap.size ≤ b → P b) : Calls Try.prog 109 #[.int .i64 (n : Int)] w (GNew6 P n w) := by
  have hinfo : (Try.prog.info? 3).map (fun i => (i.zero, i.size, i.bytes)) = some (some (.int .i64 0), 1, 8) := by kernel_rfl
  have hinfo2 : (Try.prog.info? 4).map (fun i => (i.zero, i.size, i.bytes)) = some (some (.bool false), 1, 1) := by kernel_rfl
  have hmk := run_make_row' (P := Try.prog) 27 3 (.int .i64 0) 8 Try.underlying27 hinfo rfl .i64 .i64 n (by omega) (by omega)
  have hmk2 := run_make_row' (P := Try.prog) 54 4 (.bool false) 1 Try.underlying54 hinfo2 rfl .i64 .i64 n (by omega) (by omega)
  rw [made_ints] at hmk
  rw [made_bools, openL_nil] at hmk2
  have HP := Lib.hid hP
  have HN := Lib.hid hn
  obtain ⟨Z, hZ⟩ : ∃ Z, ((List.replicate n (0 : Int)).map (Value.int .i64)).toArray = Z := ⟨_, rfl⟩
  obtain ⟨Y, hY⟩ : ∃ Y, ((openL n []).map Value.bool).toArray = Y := ⟨_, rfl⟩
  rw [hZ] at hmk
  rw [hY] at hmk2
  have HZ := Lib.hid hZ
  have HY := Lib.hid hY
  clear hinfo hinfo2 hP hn hZ hY
  go_enter Try.func109, Try.ntmps109
  go_upto_region 1 with (fail)
  refine region_name ?_
  rintro W0 hW0
  have s0 : RowAt W0 w.heap.size 56 [.slice none 0 0, .slice none 0 0, .slice none 0 0, .int .i64 0] := by rw [hW0]; exact RowAt.new w 56 _
  have z0 : W0.heap.size = w.heap.size + 1 := by rw [hW0]; simp
  have b0 : Below w.heap.size w W0 := by rw [hW0]; exact (by repeat (first | exact Below.refl _ _ | assumption | refine bel_drew ?_ | refine bel_drewN ?_ _ | refine bel_alloc ?_ _ | refine bel_set ?_ (by first | (dsimp only; omega) | (simp; done) | (simp; omega)) _ | refine bel_trans ?_ (by assumption)))
  clear hW0
  have e0 : W0.cell? ⟨w.heap.size, 0, none⟩ = some (.slice none 0 0) := by rw [s0.cell]; rfl
  have e1 : W0.cell? ⟨w.heap.size, 1, none⟩ = some (.slice none 0 0) := by rw [s0.cell]; rfl
  have e2 : W0.cell? ⟨w.heap.size, 2, none⟩ = some (.slice none 0 0) := by rw [s0.cell]; rfl
  have e3 : W0.cell? ⟨w.heap.size, 3, none⟩ = some (.int .i64 0) := by rw [s0.cell]; rfl
  have f0 := s0.frozen 0
  have f1 := s0.frozen 1
  have f2 := s0.frozen 2
  have f3 := s0.frozen 3
  have zlt : w.heap.size < W0.heap.size := by omega
  have zne : ¬ w.heap.size = W0.heap.size := by omega
  have zne1 : ¬ w.heap.size = W0.heap.size + 1 := by omega
  go_region
  all_goals clear hmk hmk2
  · refine post_name ?_
    intro W hW
    rw [← HZ.out, ← HY.out] at hW
    have rs : RowAt W w.heap.size 56 [.slice (some ⟨w.heap.size + 1, 0, none⟩) n n, .slice (some ⟨w.heap.size + 1 + 1, 0, none⟩) n n, .slice none 0 0, .int .i64 0] := by
      rw [hW]
      exact (((((((s0.set_ 0 _).set_ 1 _).set_ 2 _).set_ 3 _).alloc _).alloc _).drewN 1)
    have rb : RowAt W (w.heap.size + 1) 4 (cellsB (openL n [])) := by
      rw [hW]
      have := ((RowAt.new ((((W0.setCell ⟨w.heap.size, 0, none⟩ (.slice (some ⟨w.heap.size + 1, 0, none⟩) n n)).setCell ⟨w.heap.size, 1, none⟩ (.slice (some ⟨w.heap.size + 1 + 1, 0, none⟩) n n)).setCell ⟨w.heap.size, 2, none⟩ (.slice none 0 0)).setCell ⟨w.heap.size, 3, none⟩ (.int .i64 0)) 4 (cellsB (openL n []))).alloc (.cells ((List.replicate n (0 : Int)).map (Value.int .i64)).toArray 3)).drewN 1
      simp only [World.size_alloc, World.size_setCell, z0] at this
      exact this
    have ri : RowAt W (w.heap.size + 1 + 1) 3 (cellsI (List.replicate n (0 : Int))) := by
      rw [hW]
      have := (RowAt.new (((((W0.setCell ⟨w.heap.size, 0, none⟩ (.slice (some ⟨w.heap.size + 1, 0, none⟩) n n)).setCell ⟨w.heap.size, 1, none⟩ (.slice (some ⟨w.heap.size + 1 + 1, 0, none⟩) n n)).setCell ⟨w.heap.size, 2, none⟩ (.slice none 0 0)).setCell ⟨w.heap.size, 3, none⟩ (.int .i64 0)).alloc (.cells ((openL n []).map Value.bool).toArray 4)) 3 (cellsI (List.replicate n (0 : Int)))).drewN 1
      simp only [World.size_alloc, World.size_setCell, z0] at this
      exact this
    have hb : Below w.heap.size w W := by
      rw [hW]
      exact (bel_alloc (bel_alloc (set4_below b0 (Nat.le_refl _) _ _ _ _) _) _).drew
    clear hW e0 e1 e2 e3 f0 f1 f2 f3 s0
    have e0 : W.cell? ⟨w.heap.size, 0, none⟩ = some (.slice (some ⟨w.heap.size + 1, 0, none⟩) n n) := by rw [rs.cell]; rfl
    have e1 : W.cell? ⟨w.heap.size, 1, none⟩ = some (.slice (some ⟨w.heap.size + 1 + 1, 0, none⟩) n n) := by rw [rs.cell]; rfl
    have e2 : W.cell? ⟨w.heap.size, 2, none⟩ = some (.slice none 0 0) := by rw [rs.cell]; rfl
    have e3 : W.cell? ⟨w.heap.size, 3, none⟩ = some (.int .i64 0) := by rw [rs.cell]; rfl
    go_wp2_with fail
    refine bodyPost_ret (v := .agg #[.slice (some ⟨w.heap.size + 1, 0, none⟩) n n, .slice (some ⟨w.heap.size + 1 + 1, 0, none⟩) n n, .slice none 0 0, .int .i64 0]) (by simp [results, Try.results109, go_sem, e0, e1, e2, e3]) rfl ?_
    exact ⟨_, rfl, ⟨_, _, _, _, _, _, rfl, vat_row rb (HP.out _ (by omega)) (by simp [cellsB, openL]) (by have := HN.out; omega), vat_row ri (HP.out _ (by omega)) (by simp [cellsI]) (by have := HN.out; omega), VAt.nil⟩, hb⟩
  · refine post_name ?_
    intro W hW
    rw [← HZ.out, ← HY.out] at hW
    have rs : RowAt W w.heap.size 56 [.slice (some ⟨w.heap.size + 1 + 1, 0, none⟩) n n, .slice (some ⟨w.heap.size + 1, 0, none⟩) n n, .slice none 0 0, .int .i64 0] := by
      rw [hW]
      exact (((((((s0.set_ 0 _).set_ 1 _).set_ 2 _).set_ 3 _).alloc _).alloc _).drewN 1)
    have rb : RowAt W (w.heap.size + 1 + 1) 4 (cellsB (openL n [])) := by
      rw [hW]
      have := (RowAt.new (((((W0.setCell ⟨w.heap.size, 0, none⟩ (.slice (some ⟨w.heap.size + 1 + 1, 0, none⟩) n n)).setCell ⟨w.heap.size, 1, none⟩ (.slice (some ⟨w.heap.size + 1, 0, none⟩) n n)).setCell ⟨w.heap.size, 2, none⟩ (.slice none 0 0)).setCell ⟨w.heap.size, 3, none⟩ (.int .i64 0)).alloc (.cells ((List.replicate n (0 : Int)).map (Value.int .i64)).toArray 3)) 4 (cellsB (openL n []))).drewN 1
      simp only [World.size_alloc, World.size_setCell, z0] at this
      exact this
    have ri : RowAt W (w.heap.size + 1) 3 (cellsI (List.replicate n (0 : Int))) := by
      rw [hW]
      have := ((RowAt.new ((((W0.setCell ⟨w.heap.size, 0, none⟩ (.slice (some ⟨w.heap.size + 1 + 1, 0, none⟩) n n)).setCell ⟨w.heap.size, 1, none⟩ (.slice (some ⟨w.heap.size + 1, 0, none⟩) n n)).setCell ⟨w.heap.size, 2, none⟩ (.slice none 0 0)).setCell ⟨w.heap.size, 3, none⟩ (.int .i64 0)) 3 (cellsI (List.replicate n (0 : Int)))).alloc (.cells ((openL n []).map Value.bool).toArray 4)).drewN 1
      simp only [World.size_alloc, World.size_setCell, z0] at this
      exact this
    have hb : Below w.heap.size w W := by
      rw [hW]
      exact (bel_alloc (bel_alloc (set4_below b0 (Nat.le_refl _) _ _ _ _) _) _).drew
    clear hW e0 e1 e2 e3 f0 f1 f2 f3 s0
    have e0 : W.cell? ⟨w.heap.size, 0, none⟩ = some (.slice (some ⟨w.heap.size + 1 + 1, 0, none⟩) n n) := by rw [rs.cell]; rfl
    have e1 : W.cell? ⟨w.heap.size, 1, none⟩ = some (.slice (some ⟨w.heap.size + 1, 0, none⟩) n n) := by rw [rs.cell]; rfl
    have e2 : W.cell? ⟨w.heap.size, 2, none⟩ = some (.slice none 0 0) := by rw [rs.cell]; rfl
    have e3 : W.cell? ⟨w.heap.size, 3, none⟩ = some (.int .i64 0) := by rw [rs.cell]; rfl
    go_wp2_with fail
    refine bodyPost_ret (v := .agg #[.slice (some ⟨w.heap.size + 1 + 1, 0, none⟩) n n, .slice (some ⟨w.heap.size + 1, 0, none⟩) n n, .slice none 0 0, .int .i64 0]) (by simp [results, Try.results109, go_sem, e0, e1, e2, e3]) rfl ?_
    exact ⟨_, rfl, ⟨_, _, _, _, _, _, rfl, vat_row rb (HP.out _ (by omega)) (by simp [cellsB, openL]) (by have := HN.out; omega), vat_row ri (HP.out _ (by omega)) (by simp [cellsI]) (by have := HN.out; omega), VAt.nil⟩, hb⟩
set_option maxRecDepth 100000 in
theorem ref37_New (n : Nat) (hn : n ≤ 4096) (hP : ∀ b, w.heap.size ≤ b → P b) : Calls Try.prog 37 #[.int .i64 (n : Int)] w fun e w' => ∃ V, e = .returned V ∧ RefF P w' V n (List.replicate n 0) [] [] 0 [] (List.replicate n 0) ∧ Below w.heap.size w w' := by
  have K : Hid (∀ W, w.heap.size < W.heap.size → Calls Try.prog 109 #[.int .i64 (n : Int)] W (GNew6 (fun b => P b ∧ w.heap.size < b) n W)) := Lib.hid (fun W hW => ref06_New n hn (fun b hb => ⟨hP b (by omega), by omega⟩))
  clear hn hP
  go_enter Try.func37, Try.ntmps37
  go_upto_region 1 with (fail)
  refine region_name ?_
  rintro W0 hW0
  have s0 : RowAt W0 w.heap.size 58 [.slice none 0 0, .slice none 0 0, .slice none 0 0, .int .i64 0, .slice none 0 0, .slice none 0 0] := by rw [hW0]; exact RowAt.new w 58 _
  have z0 : w.heap.size < W0.heap.size := by rw [hW0]; simp
  have b0 : Below w.heap.size w W0 := by rw [hW0]; exact (by repeat (first | exact Below.refl _ _ | assumption | refine bel_drew ?_ | refine bel_drewN ?_ _ | refine bel_alloc ?_ _ | refine bel_set ?_ (by first | (dsimp only; omega) | (simp; done) | (simp; omega)) _ | refine bel_trans ?_ (by assumption)))
  clear hW0
  go_wp2_with fail
  refine (K.out _ z0).mono ?_
  rintro e w1 ⟨V, rfl, ⟨Ao, co, Ag, cg, Ac, cc, rfl, h1, h2, h3⟩, hb⟩
  have s1 := s0.keep hb
  have b1 := bel_trans b0 hb
  have H1 := Lib.hid h1
  have H2 := Lib.hid h2
  have H3 := Lib.hid h3
  clear s0 b0 hb h1 h2 h3
  have e0 := (s1.cell 0).trans rfl
  have e1 := (s1.cell 1).trans rfl
  have e2 := (s1.cell 2).trans rfl
  have e3 := (s1.cell 3).trans rfl
  have e4 := (s1.cell 4).trans rfl
  have e5 := (s1.cell 5).trans rfl
  have f0 := s1.frozen 0
  have f1 := s1.frozen 1
  have f2 := s1.frozen 2
  have f3 := s1.frozen 3
  have f4 := s1.frozen 4
  have f5 := s1.frozen 5
  go_wp2_with fail
  refine bodyPost_ret (v := .agg #[.slice Ao n co, .slice Ag n cg, .slice Ac 0 cc, .int .i64 0, .slice none 0 0, .slice none 0 0]) (by simp [results, Try.results37, go_sem, e0, e1, e2, e3, e4, e5]) rfl ?_
  have hB : Below w.heap.size w (setRow w1 w.heap.size 0 [.slice Ao n co, .slice Ag n cg, .slice Ac 0 cc, .int .i64 0, .slice none 0 0, .slice none 0 0]) := setRow_below (Nat.le_refl _) _ _ _ b1
  have hz : w1.heap.size ≤ (setRow w1 w.heap.size 0 [.slice Ao n co, .slice Ag n cg, .slice Ac 0 cc, .int .i64 0, .slice none 0 0, .slice none 0 0]).heap.size := by rw [setRow_size]; exact Nat.le_refl _
  have hk : ∀ b, b < w1.heap.size → P b ∧ w.heap.size < b → (setRow w1 w.heap.size 0 [.slice Ao n co, .slice Ag n cg, .slice Ac 0 cc, .int .i64 0, .slice none 0 0, .slice none 0 0]).heap[b]? = w1.heap[b]? := fun b _ hb => setRow_block _ _ (by omega) _ _ _
  exact ⟨_, rfl, ⟨Ao, co, Ag, cg, Ac, cc, none, 0, none, 0, rfl, ⟨Ao, co, Ag, cg, Ac, cc, rfl, (H1.out.blocks hz hk).mono (fun b _ h => h.1), (H2.out.blocks hz hk).mono (fun b _ h => h.1), (H3.out.blocks hz hk).mono (fun b _ h => h.1)⟩, VAt.nil, VAt.nil⟩, hB⟩
theorem law37_first {A : Option Addr} {m : Nat} {l : List Nat} (c : Nat) (h : IntsAt w A m (ints l)) : Calls Try.prog 120 #[.slice A m c] w fun e w' => e = .returned (.int .i64 (PC.headD l)) ∧ w = w' := by
  have hl := h.1
  rw [ints_len] at hl
  subst hl
  cases l with
  | nil =>
    clear h
    go_enter Try.func120, Try.ntmps120
    go_wp2_with fail
    go_ret
    exact ⟨rfl, rfl⟩
  | cons x l =>
    obtain ⟨b, off, rfl, hb, hc⟩ := h.2.2 (by simp)
    have x0 := hc 0 (by simp)
    have e : (ints (x :: l)).getD 0 0 = (x : Int) := rfl
    rw [e, Nat.add_zero] at x0
    obtain ⟨m, hm⟩ : ∃ m, (x :: l).length = m := ⟨_, rfl⟩
    rw [hm]
    have hm0 : 0 < m := by rw [← hm]; simp
    have j0 : ¬ (m : Int) = 0 := by omega
    have j1 : ((m : Int) == 0) = false := by simpa using j0
    have j2 : (0 : Int) < (m : Int) := by omega
    clear h hc e hb hm
    go_enter Try.func120, Try.ntmps120
    go_wp2_with fail
    go_ret
    exact ⟨rfl, rfl⟩
theorem child_take {x : Int} {k : Nat} (hk : k < N.length) : childN (N.take (k + 1)) up x = childN (N.take k) up x ++ (if up.getD N[k] 0 = x then [N[k]] else []) := by
  unfold childN
  rw [List.take_succ_eq_append_getElem hk, List.filter_append]
  congr 1
  split <;> rename_i h
  · simp only [List.filter_cons, List.filter_nil]
    rw [if_pos (decide_eq_true h)]
  · simp only [List.filter_cons, List.filter_nil]
    rw [if_neg (fun e => h (of_decide_eq_true e))]
theorem child_len (x : Int) (k : Nat) : (childN (N.take k) up x).length ≤ N.length := by
  unfold childN
  refine Nat.le_trans (List.length_filter_le _ _) ?_
  rw [List.length_take]
  omega
def ChildRel (w w0 : World) (N : List Nat) (up : List Int) (x : Int) (v i : Value) (wr : World) : Prop :=
  ∃ k : Nat, k ≤ N.length ∧ i = .int .i64 k ∧ OwnI w0.heap.size wr v (ints (childN (N.take k) up x)) ∧ Below w0.heap.size w0 wr
theorem own_shape {B : Nat} {v : Value} {l : List Int} (h : OwnI B w v l) : ∃ A c, v = .slice A l.length c := by
  obtain ⟨A, c, e, _⟩ := h.ints
  exact ⟨A, c, e⟩
theorem own_gives {v : Value} {l : List Int} (h : OwnI w.heap.size w' v l) (hl : l.length ≤ 9223372036854775807) (hb : Below w.heap.size w w') : GivesInts w l (.returned v) w' := by
  obtain ⟨A, c, rfl, hi⟩ := ints_of_own h hl
  exact ⟨A, _, c, rfl, hi, hb⟩
set_option maxHeartbeats 4000000 in
theorem ref37_Children (x : Int) (hN : N.length ≤ 100000) (h : RefF P w V n g O cl fr N up) : Calls Try.prog 47 #[V, .int .i64 x] w (GivesInts w (ints (childN N up x))) := by
  obtain ⟨Ao, co, Ag, cg, Ac, cc, An, cn, Ap, cp, rfl, h1, h2, h3⟩ := h
  have H2 := Lib.hid h2
  have H3 := Lib.hid h3
  obtain ⟨m, hml⟩ : ∃ m, cl.length = m := ⟨_, rfl⟩
  rw [hml]
  obtain ⟨w0, hw0⟩ : ∃ w0, w.alloc (.cells #[.slice Ao n co, .slice Ag n cg, .slice Ac m cc, .int .i64 (fr : Int), .slice An N.length cn, .slice Ap N.length cp] 58) = w0 := ⟨_, rfl⟩
  have r0 : RowAt w0 w.heap.size 58 [.slice Ao n co, .slice Ag n cg, .slice Ac m cc, .int .i64 (fr : Int), .slice An N.length cn, .slice Ap N.length cp] := by rw [← hw0]; exact RowAt.new w 58 _
  have b0 : Below w.heap.size w w0 := by rw [← hw0]; exact (by repeat (first | exact Below.refl _ _ | assumption | refine bel_drew ?_ | refine bel_drewN ?_ _ | refine bel_alloc ?_ _ | refine bel_set ?_ (by first | (dsimp only; omega) | (simp; done) | (simp; omega)) _ | refine bel_trans ?_ (by assumption)))
  have c4 : w0.cell? ⟨w.heap.size, 4, none⟩ = some (.slice An N.length cn) := by rw [r0.cell]; rfl
  have c5 : w0.cell? ⟨w.heap.size, 5, none⟩ = some (.slice Ap N.length cp) := by rw [r0.cell]; rfl
  have B0 := Lib.hid b0
  have HW0 := Lib.hid hw0
  have hlt0 : w.heap.size < w0.heap.size := by rw [← hw0]; simp
  clear h1 h2 h3 r0 hml b0 hw0
  go_enter Try.func47, Try.ntmps47
  go_upto_region 1 with (fail)
  rw [HW0.out]
  go_wp2_with fail
  go_loopw [5, 6] (fun v i wr => ChildRel w w0 N up x v i wr) (fun v i _ => N.length - (intOf i).toNat)
  case atStart => exact ⟨0, Nat.zero_le _, rfl, OwnI.nil _ _, Below.refl _ _⟩
  case round =>
    obtain ⟨k, hk, rfl, ho, hb⟩ := hrel
    have c4' := (hb.cell (p := ⟨w.heap.size, 4, none⟩) hlt0).trans c4
    have c5' := (hb.cell (p := ⟨w.heap.size, 5, none⟩) hlt0).trans c5
    have HB := Lib.hid hb
    have HO := Lib.hid ho
    obtain ⟨Av, cv, hv⟩ := own_shape ho
    have hcl := child_len (N := N) (up := up) x k
    obtain ⟨mv, hmv⟩ : ∃ mv, (ints (childN (N.take k) up x)).length = mv := ⟨_, rfl⟩
    have hmv2 : mv ≤ 100000 := by rw [← hmv, ints_len]; omega
    rw [hmv] at hv
    have HMV := Lib.hid hmv
    clear c4 c5 hb ho hcl hmv
    subst hv
    have g0 : (0 : Int) ≤ (k : Int) := by omega
    by_cases hlt : k < N.length
    · have hlt' : (k : Int) < (N.length : Int) := by omega
      obtain ⟨b, off, rfl, hbn, x0⟩ := ((H2.out.keep B0.out).keep HB.out).at (ints_cells hlt)
      obtain ⟨b', off', rfl, hbp, y0⟩ := ((H3.out.keep B0.out).keep HB.out).at (ups_cells (up := up) hlt)
      have HT := Lib.hid (child_take (up := up) (x := x) hlt)
      obtain ⟨v, hv⟩ : ∃ v : Nat, N[k] = v := ⟨_, rfl⟩
      rw [hv] at x0 y0
      obtain ⟨u, hu⟩ : ∃ u : Int, up.getD v 0 = u := ⟨_, rfl⟩
      rw [hu] at y0
      rw [hv, hu] at HT
      clear hv hu
      by_cases hux : u = x
      · have e1 : (u == x) = true := by simpa using hux
        rw [if_pos hux] at HT
        have HT2 : Hid (ints (childN (N.take k) up x) ++ [(v : Int)] = ints (childN (N.take (k + 1)) up x)) := Lib.hid (by rw [HT.out]; simp [ints])
        clear HT hux
        go_wp2_with (at_builtin; refine app_listI rfl (.tmp 21) (.tmp 27) rfl w0.heap.size _ _ rfl (HO.out.keep (bel_alloc (Below.refl _ _) _)) (some ⟨wr.heap.size, 0, none⟩) 1 1 [(v : Int)] rfl (src_oneI (by simp [go_sem])) (by rw [HMV.out]; omega) (by have := HB.out.size; simp; omega) ?_; intro v9 w9 ho9 hb9; rw [HT2.out] at ho9; replace ho9 := Lib.hid ho9; have b9 := Lib.hid ((bel_alloc HB.out _).trans hb9))
        go_roundw
        case rel => exact ⟨k + 1, by omega, by go_num, ho9.out, b9.out⟩
        case measure => simp [intOf]; omega
      · have e1 : (u == x) = false := by simpa using hux
        rw [if_neg hux, List.append_nil] at HT
        clear hux
        go_wp2_with fail
        go_roundw
        case rel => exact ⟨k + 1, by omega, by go_num, by rw [HT.out]; exact HO.out, HB.out⟩
        case measure => simp [intOf]; omega
    · obtain rfl : k = N.length := by omega
      have HT : Hid (childN (N.take N.length) up x = childN N up x) := Lib.hid (by rw [List.take_length])
      go_wp2_with fail
      go_ret
      exact own_gives (by rw [← HT.out]; exact HO.out.mono (by omega)) (by rw [← HT.out, HMV.out]; omega) (bel_trans B0.out HB.out)
end Go.Proofs.Ytdhcmnbajkpjiaa
/-
  Regions that draw, whose literals and appends may come up in many orders: several slices of ints of the call's own at once; the act, the operations and what follows under names.
-/
namespace Go.Proofs.Ytdhcmnbajkpjiaa
open Go.RowKit
set_option linter.unusedVariables false
set_option linter.unusedSimpArgs false
attribute [local go_sem] drewN_alloc drewN_setCell

section
variable {P : Program} {md : Region.Mode} {ops : Array Oper} {Q : Exit → Act → World → Prop} {S : World → Prop} {fuel : Nat} {listed : Array Bool} {a : Act} {w : World}
theorem dag_name (h : ∀ (ops' : Array Oper) (Q' : Exit → Act → World → Prop) (a' : Act), ops' = ops → Q' = Q → a' = a → wpAnyH P md ops' Q' S fuel listed a' w) : wpAnyH P md ops Q S fuel listed a w := h ops Q a rfl rfl rfl
theorem ready_cons {i : Nat} {o : Oper} {rs : List Nat} (ho : ops.toList[i]? = some o) (hw : Region.wanted o (yielded ops a.tmps) = true)
    (h : ∀ K' : Act → World → Prop, Shut (∀ a w, S w → (S w → wpAnyH P md ops Q S fuel (listed.setIfInBounds i true) a w) → K' a w) → Oper.wp P o a w K' Q)
    (hs : AllReadyH P md ops Q S fuel listed a w rs) : AllReadyH P md ops Q S fuel listed a w (i :: rs) :=
  AllReadyH.cons (at_list ho) (fun K' hK => by rw [if_pos hw]; exact h K' hK) hs
end

/-- Slices of ints of the call's own, each under a number, in memory from B on; no two in one block. -/
def Own2 (B : Nat) (w : World) (L : List (Nat × Value × List Int)) : Prop :=
  (∀ x ∈ L, OwnI B w x.2.1 x.2.2) ∧ ∀ x ∈ L, ∀ y ∈ L, x.1 ≠ y.1 → ∀ k, x.2.1.ownBlock = some k → y.2.1.ownBlock ≠ some k
variable {B : Nat} {w w' : World} {L L' : List (Nat × Value × List Int)}
theorem Own2.nil (B : Nat) (w : World) : Own2 B w [] := ⟨fun x h => (by cases h), fun x h => (by cases h)⟩
theorem Own2.sub (h : Own2 B w L) (hs : ∀ x ∈ L', x ∈ L) : Own2 B w L' := ⟨fun x hx => h.1 x (hs x hx), fun x hx y hy => h.2 x (hs x hx) y (hs y hy)⟩
theorem Own2.own (h : Own2 B w L) {d : Nat} {v : Value} {l : List Int} (hm : (d, v, l) ∈ L) : OwnI B w v l := h.1 _ hm
theorem Own2.lit (h : Own2 B w L) (hB : B ≤ w.heap.size) {o : Obj} {d : Nat} {v : Value} {l : List Int} (hd : ∀ y ∈ L, y.1 ≠ d) (hv : OwnI w.heap.size (w.alloc o) v l) : Own2 B (w.alloc o) ((d, v, l) :: L) := by
  have key : ∀ y ∈ L, ∀ k, v.ownBlock = some k → y.2.1.ownBlock ≠ some k := fun y hy k hk e => by
    have h1 := (hv.ltB k hk).1
    have h2 := ((h.1 y hy).ltB k e).2
    omega
  refine ⟨fun x hx => ?_, fun x hx y hy hne k hk => ?_⟩
  · rcases List.mem_cons.1 hx with rfl | hx
    · exact hv.mono hB
    · exact (h.1 x hx).keep (bel_alloc (Below.refl _ _) _)
  · rcases List.mem_cons.1 hx with rfl | hx
    · rcases List.mem_cons.1 hy with rfl | hy
      · exact absurd rfl hne
      · exact key y hy k hk
    · rcases List.mem_cons.1 hy with rfl | hy
      · exact fun e => key x hx k e hk
      · exact h.2 x hx y hy hne k hk
theorem Own2.app (h : Own2 B w L) {d0 d : Nat} {v0 v : Value} {l0 l : List Int} (hm : (d0, v0, l0) ∈ L) (hv : OwnI B w' v l)
    (ho : ∀ B' v2 l', OwnI B' w v2 l' → (∀ k, v2.ownBlock = some k → v0.ownBlock ≠ some k) → OwnI B' w' v2 l') (hor : v.ownBlock = v0.ownBlock ∨ v.ownBlock = some w.heap.size)
    (hs : ∀ y ∈ L', y ∈ L ∧ y.1 ≠ d0) : Own2 B w' ((d, v, l) :: L') := by
  have key : ∀ y ∈ L', ∀ k, v.ownBlock = some k → y.2.1.ownBlock ≠ some k := fun y hy k hk e => by
    obtain ⟨h1, h2⟩ := hs y hy
    rcases hor with h3 | h3
    · exact h.2 y h1 _ hm h2 k e (h3 ▸ hk)
    · rw [h3] at hk
      cases hk
      have := ((h.1 y h1).ltB _ e).2
      omega
  refine ⟨fun x hx => ?_, fun x hx y hy hne k hk => ?_⟩
  · rcases List.mem_cons.1 hx with rfl | hx
    · exact hv
    · obtain ⟨h1, h2⟩ := hs x hx
      exact ho B _ _ (h.1 x h1) (fun k hk => h.2 x h1 _ hm h2 k hk)
  · rcases List.mem_cons.1 hx with rfl | hx
    · rcases List.mem_cons.1 hy with rfl | hy
      · exact absurd rfl hne
      · exact key y hy k hk
    · rcases List.mem_cons.1 hy with rfl | hy
      · exact fun e => key x hx k e hk
      · exact h.2 x (hs x hx).1 y (hs y hy).1 hne k hk
theorem own_oneI2 (w : World) (x : Int) : OwnI w.heap.size (w.alloc (.cells #[.int .i64 x] 3)) (.slice (some ⟨w.heap.size, 0, none⟩) 1 1) [x] :=
  OwnI.of_row (Nat.le_refl _) (by show (w.heap.push _)[w.heap.size]? = _; simp [cellsI]) rfl (by omega)
theorem OwnI.src {v : Value} {l : List Int} (h : OwnI B w v l) : ∃ A m c, v = .slice A m c ∧ SrcS 1 w A m (cellsI l) ∧ m = l.length := by
  obtain ⟨A, c, e, hi, _⟩ := h.ints
  exact ⟨A, l.length, c, e, hi.srcI, rfl⟩
end Go.Proofs.Ytdhcmnbajkpjiaa
