/-
  The walk of ChainMoves.
-/
import Derived.Test.YtdhcmnbajkpjiaaPlainMoves
import Derived.Test.YtdhcmnbajkpjiaaChainJ
import Derived.Test.YtdhcmnbajkpjiaaBytes
import Derived.BigQuiet
import Derived.Deep.QuietTactic
namespace Go.Proofs.Ytdhcmnbajkpjiaa
open Go.RowKit
set_option linter.unusedVariables false
attribute [local go_sem] drewN_alloc drewN_setCell

theorem ints_filter (r : List Nat) (x : Nat) : (ints r).filter (fun y => y != (x : Int)) = ints (r.filter (fun y => y != x)) := by
  unfold ints
  rw [List.filter_map]
  congr 1
  apply List.filter_congr
  intro y _
  show ((y : Int) != (x : Int)) = (y != x)
  by_cases e : y = x
  · subst e; simp
  · have e' : (y : Int) ≠ (x : Int) := by omega
    rw [bne_iff_ne.2 e, bne_iff_ne.2 e']

def MovesRel (w : World) (C Nb Lb : Nat) (xs : List Int) (i : Value) (wr : World) : Prop :=
  ∃ j : Nat, j ≤ xs.length ∧ i = .int .i64 j ∧ ChainOver w wr C Nb Lb 256 2 (PC.addAll (xs.take j))
def MovesRel2 (w : World) (V : List Int) (p : Int → Bool) (q i : Value) (wr : World) : Prop :=
  ∃ k : Nat, k ≤ V.length ∧ i = .int .i64 k ∧ q = .int .i64 (((V.take k).filter p).length : Nat) ∧ Below w.heap.size w wr

theorem law05_ChainMoves_short (A : Option Addr) (n c : Nat) (k : Int) (w : World) (h : 100 < n ∨ n = 0) (hn : n ≤ 9223372036854775807) :
    Calls Try.prog 3 #[.slice A n c, .int .u8 k] w fun e w' => e = .returned (.bool true) ∧ Below w.heap.size w w' := by
  by_cases h1 : 100 < n
  · have h1' : (100 : Int) < (n : Int) := by omega
    clear h
    go_enter Try.func3, Try.ntmps3
    go_wp2_with fail
    refine (law05_works _).mono ?_
    rintro e w1 ⟨rfl, h1⟩
    go_wp2_with fail
    go_ret
    exact ⟨rfl, h1⟩
  · obtain rfl : n = 0 := by omega
    clear h h1
    go_enter Try.func3, Try.ntmps3
    go_wp2_with fail
    refine (law05_works _).mono ?_
    rintro e w1 ⟨rfl, h1⟩
    go_wp2_with fail
    go_ret
    exact ⟨rfl, h1⟩

set_option maxHeartbeats 2000000 in
theorem law05_ChainMoves_some (b off n c : Nat) (xs : List Int) (k : Int) (w : World) (hA : BytesAt w (some ⟨b, off, none⟩) n xs) (h0 : 0 < n) (h100 : n ≤ 100) (k0 : 0 ≤ k) (k1 : k ≤ 255) :
    Calls Try.prog 3 #[.slice (some ⟨b, off, none⟩) n c, .int .u8 k] w fun e w' => e = .returned (.bool true) ∧ Below w.heap.size w w' := by
  have hd0 : ((n : Int) == 0) = false := by simp; omega
  have hd1 : decide ((100 : Int) < (n : Int)) = false := by simp; omega
  have j0 : (0 : Int) < (n : Int) := by omega
  have j1 : (n : Int) ≤ 100 := by omega
  obtain ⟨hlen, -, hbd, hcl⟩ := hA
  obtain ⟨b', off', eA, hb, hc⟩ := hcl h0
  simp only [Option.some.injEq, Addr.mk.injEq] at eA
  obtain ⟨rfl, rfl, -⟩ := eA
  have HLEN := Lib.hid hlen
  have HBD := Lib.hid hbd
  have HC := Lib.hid hc
  have HB := Lib.hid hb
  have N := Lib.hid (over_New 2 256 w (by omega) (by omega))
  clear hlen hbd hcl hc hb
  go_enter Try.func3, Try.ntmps3
  go_wp2_with fail
  refine N.out.mono ?_
  rintro e w1 ⟨C, Nb, Lb, rfl, h1⟩
  replace h1 := Lib.hid h1
  go_wp2_with fail
  go_loopw [6] (fun i wr => MovesRel w C Nb Lb xs i wr) (fun i _ => n - (intOf i).toNat)
  case atStart => exact ⟨0, Nat.zero_le _, rfl, h1.out⟩
  case round =>
    clear h1 N
    obtain ⟨j, hj, rfl, ho⟩ := hrel
    have HJ := Lib.hid hj
    have HO := Lib.hid ho
    clear hj ho
    by_cases hlt : (j : Int) < n
    · have x0 := (HO.out.below.cell (p := ⟨b, off + j, none⟩) HB.out).trans (HC.out j (by omega))
      obtain ⟨x, hx⟩ : ∃ x, xs.getD j 0 = x := ⟨_, rfl⟩
      have hjl : j < xs.length := by have := HLEN.out; omega
      have hxe : xs[j] = x := by rw [← hx]; simp [List.getD, hjl]
      have hxb := HBD.out x (by rw [← hxe]; exact List.getElem_mem hjl)
      obtain ⟨hx0, hx1⟩ := hxb
      rw [hx] at x0
      have hts : PC.addAll (xs.take (j + 1)) = PC.addR 256 2 (PC.addAll (xs.take j)) 0 x := by rw [List.take_succ_eq_append_getElem hjl, hxe, PC.addAll_snoc]
      have HTS := Lib.hid hts
      have HJL := Lib.hid hjl
      have K := Lib.hid (over_Add 0 x HO.out)
      have g0 : (0 : Int) ≤ (j : Int) := by omega
      clear hx hxe hts hjl
      go_wp2_with fail
      refine K.out.mono ?_
      rintro e w2 ⟨rfl, h2, -⟩
      rw [← HTS.out] at h2
      replace h2 := Lib.hid h2
      go_wp2_with fail
      go_roundw
      case rel => exact ⟨j + 1, by have := HJL.out; omega, by go_num, h2.out⟩
      case measure => simp [intOf]; omega
    · have hjn : j = xs.length := by have := HLEN.out; have := HJ.out; omega
      have ht : xs.take j = xs := by rw [hjn, List.take_length]
      rw [ht] at HO
      have hin := PC.addAll_in xs HBD.out
      obtain ⟨R, hR⟩ : ∃ R, PC.addAll xs = R := ⟨_, rfl⟩
      rw [hR] at HO hin
      have HIN := Lib.hid hin
      obtain ⟨m, hm⟩ : ∃ m : Nat, k % (n : Int) = m := ⟨(k % (n : Int)).toNat, by have := Int.emod_nonneg k (show (n : Int) ≠ 0 by omega); omega⟩
      have hmn : (m : Int) < n := by rw [← hm]; exact Int.emod_lt_of_pos _ (by omega)
      have hmx : m < xs.length := by have := HLEN.out; omega
      obtain ⟨x, hx⟩ : ∃ x : Nat, xs.getD m 0 = x := ⟨(xs.getD m 0).toNat, by have := HBD.out (xs[m]) (List.getElem_mem hmx); simp [List.getD, hmx]; omega⟩
      have hxe : xs[m] = (x : Int) := by rw [← hx]; simp [List.getD, hmx]
      have hxb := HBD.out x (by rw [← hxe]; exact List.getElem_mem hmx)
      have hxm : (x : Int) ∈ xs := by rw [← hxe]; exact List.getElem_mem hmx
      have HXM := Lib.hid hxm
      obtain ⟨hx0, hx1⟩ := hxb
      have K1 := Lib.hid (over_Add 1 255 HO.out)
      have g0 : (0 : Int) ≤ (m : Int) := by omega
      clear ht hR hin hmx hxe hxm
      have HX := Lib.hid hx
      clear hx hjn
      go_wp2_with fail
      refine K1.out.mono ?_
      rintro e w2 ⟨rfl, h2, -⟩
      have x0 := (h2.below.cell (p := ⟨b, off + m, none⟩) HB.out).trans (HC.out m (by omega))
      rw [HX.out] at x0
      replace h2 := Lib.hid h2
      by_cases h255 : x = 255
      · subst h255
        go_wp2_with fail
        refine (law05_works _).mono ?_
        rintro e w3 ⟨rfl, h3⟩
        go_wp2_with fail
        go_ret
        exact ⟨rfl, (h2.out.keep h3).below⟩
      · have hne : ((x : Int) == 255) = false := by simp; omega
        obtain ⟨R2, R3, R4, e2, e3, e4, f1, f2, f3, f4, f5, f6⟩ := PC.moves_rows HIN.out HXM.out h255 (by omega)
        rw [e2] at h2
        have L1 := chain_List 0 h2.out.rows
        rw [f1] at L1
        have D := fun W (h : ChainOver w W C Nb Lb 256 2 R2) => over_Drop (x : Int) h
        rw [f2, e3] at D
        have A1 := fun W (h : ChainOver w W C Nb Lb 256 2 R3) => over_Add 1 (x : Int) h
        rw [f3, e4] at A1
        have La := fun W (h : ChainRows W C Nb Lb 256 2 R4) => chain_Last 1 h
        rw [f4] at La
        have Of := fun W (h : ChainRows W C Nb Lb 256 2 R4) => chain_Of (x : Int) h
        rw [f5] at Of
        have L2 := fun W (h : ChainRows W C Nb Lb 256 2 R4) => chain_List 0 h
        rw [f6, ← ints_filter] at L2
        replace L1 := Lib.hid L1
        replace L2 := Lib.hid L2
        replace D := Lib.hid D
        replace A1 := Lib.hid A1
        replace La := Lib.hid La
        replace Of := Lib.hid Of
        clear e2 e3 e4 f1 f2 f3 f4 f5 f6
        generalize ints (R 0) = V at *
        go_wp2_with fail
        refine L1.out.mono ?_
        rintro e w3 ⟨A3, n3, c3, rfl, i3, b3⟩
        have h3 := Lib.hid (h2.out.keep b3)
        have q1 := Lib.hid (Nat.lt_of_lt_of_le h2.out.rows.lt1.2.1 (Nat.le_refl _))
        have q2 := Lib.hid (Nat.lt_of_lt_of_le h2.out.rows.lt1.2.2 (Nat.le_refl _))
        replace i3 := Lib.hid i3
        clear b3
        go_wp2_with fail
        refine (D.out _ h3.out).mono ?_
        rintro e w4 ⟨rfl, h4, o4⟩
        have i4 := Lib.hid (i3.out.off q1.out q2.out o4)
        replace h4 := Lib.hid h4
        clear o4
        go_wp2_with fail
        refine (A1.out _ h4.out).mono ?_
        rintro e w5 ⟨rfl, h5, o5⟩
        have i5 := Lib.hid (i4.out.off q1.out q2.out o5)
        replace h5 := Lib.hid h5
        clear o5
        go_wp2_with fail
        refine (La.out _ h5.out.rows).mono ?_
        rintro e w6 ⟨rfl, rfl⟩
        have u1 : ((x : Int) != (x : Int)) = false := by simp
        go_wp2_with fail
        refine (Of.out _ h5.out.rows).mono ?_
        rintro e w6 ⟨rfl, rfl⟩
        go_wp2_with fail
        refine (L2.out _ h5.out.rows).mono ?_
        rintro e w6 ⟨A6, n6, c6, rfl, i6, b6⟩
        have h6 := Lib.hid (h5.out.keep b6)
        have v6 := Lib.hid (i5.out.keep b6).1
        replace i6 := Lib.hid i6.1
        clear b6
        go_wp2_with fail
        go_loopw [10, 11] (fun q i wr => MovesRel2 w6 V (fun y => y != (x : Int)) q i wr) (fun q i _ => V.length - (intOf i).toNat)
        case atStart => exact ⟨0, Nat.zero_le _, rfl, rfl, Below.refl _ _⟩
        case round =>
          obtain ⟨k, hk, rfl, rfl, hbel⟩ := hrel
          have vl := v6.out.1
          have nl := i6.out.1
          have v63 : n3 ≤ 9223372036854775807 := v6.out.2.1
          have hk' := Lib.hid hk
          replace hbel := Lib.hid hbel
          have g1 : (0 : Int) ≤ (k : Int) := by omega
          have q0 : ((V.take k).filter (fun y => y != (x : Int))).length ≤ (V.take k).length := List.length_filter_le _ _
          rw [List.length_take] at q0
          have q3 : V.length ≤ 9223372036854775807 := by omega
          replace vl := Lib.hid vl
          replace nl := Lib.hid nl
          by_cases hlt : (k : Int) < n3
          · obtain ⟨b3, o3, rfl, hb3, hc3⟩ := v6.out.2.2 (by omega)
            have hkV : k < V.length := by have := vl.out; omega
            have v0 := (hbel.out.cell (p := ⟨b3, o3 + k, none⟩) hb3).trans (hc3 k (by omega))
            obtain ⟨v, hv⟩ : ∃ v, V.getD k 0 = v := ⟨_, rfl⟩
            have hve : V[k] = v := by rw [← hv]; simp [List.getD, hkV]
            rw [hv] at v0
            clear hc3 hb3 hv
            by_cases hvx : v = (x : Int)
            · have e1 : (v == (x : Int)) = true := by simpa using hvx
              have fs := PC.filter_skip (p := fun y => y != (x : Int)) hkV (by rw [hve, hvx]; simp)
              have FS := Lib.hid fs
              have HKV := Lib.hid hkV
              clear fs hvx hve hkV q0 hk
              go_wp2_with fail
              go_roundw
              case rel => exact ⟨k + 1, HKV.out, by go_num, by rw [FS.out], hbel.out⟩
              case measure => have := HKV.out; simp [intOf]; omega
            · have e1 : (v == (x : Int)) = false := by simpa using hvx
              have fs := PC.filter_at (p := fun y => y != (x : Int)) hkV (by rw [hve]; simpa using hvx)
              obtain ⟨f1, f2, f3⟩ := fs
              rw [hve] at f2
              obtain ⟨q, hq⟩ : ∃ q, ((V.take k).filter (fun y => y != (x : Int))).length = q := ⟨_, rfl⟩
              rw [hq] at f1 f2 f3 q0 ⊢
              rw [nl.out] at f1
              obtain ⟨b6, o6, rfl, hb6, hc6⟩ := i6.out.2.2 (by omega)
              have n0 := (hbel.out.cell (p := ⟨b6, o6 + q, none⟩) hb6).trans (hc6 q (by omega))
              rw [f2] at n0
              have F3 := Lib.hid f3
              have HKV := Lib.hid hkV
              have e2 : decide ((n6 : Int) ≤ (q : Int)) = false := by simp; omega
              have e2' : decide (n6 ≤ q) = false := by simp; omega
              have e3 : (v != v) = false := by simp
              have g2 : (0 : Int) ≤ (q : Int) := by omega
              have g3 : (q : Int) < (n6 : Int) := by omega
              have g4 : (q : Int) + 1 ≤ 9223372036854775807 := by omega
              clear f1 f2 f3 hvx hve hkV q0 hk hq hc6 hb6
              go_wp2_with fail
              go_quiet (fail)
              go_wp2_with fail
              go_roundw
              case rel => exact ⟨k + 1, HKV.out, by go_num, by rw [F3.out]; go_num, bel_drewN hbel.out _⟩
              case measure => have := HKV.out; simp [intOf]; omega
          · have hkn : k = V.length := by have := vl.out; omega
            have hfull : ((V.take k).filter (fun y => y != (x : Int))).length = n6 := by rw [hkn, List.take_length]; exact nl.out
            rw [hfull]
            clear hfull hkn q0 hk
            have e4 : ((n6 : Int) == (n6 : Int)) = true := by simp
            go_wp2_with fail
            refine (law05_works _).mono ?_
            rintro e w7 ⟨rfl, h7⟩
            go_wp2_with fail
            go_ret
            exact ⟨rfl, bel_trans (bel_trans h6.out.below hbel.out) h7⟩

theorem law05_ChainMoves (A : Option Addr) (n c : Nat) (xs : List Int) (k : Int) (w : World) (hA : BytesAt w A n xs) (k0 : 0 ≤ k ∧ k ≤ 255) :
    Calls Try.prog 3 #[.slice A n c, .int .u8 k] w fun e w' => e = .returned (.bool true) ∧ Below w.heap.size w w' := by
  by_cases h : 100 < n ∨ n = 0
  · exact law05_ChainMoves_short A n c k w h hA.2.1
  · obtain ⟨b, off, rfl, _, _⟩ := hA.2.2.2 (by omega)
    exact law05_ChainMoves_some b off n c xs k w hA (by omega) (by omega) k0.1 k0.2
end Go.Proofs.Ytdhcmnbajkpjiaa
