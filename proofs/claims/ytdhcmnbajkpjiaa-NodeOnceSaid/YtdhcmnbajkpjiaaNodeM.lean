/-
  The walk of NodeOnce.
-/
import Derived.Test.YtdhcmnbajkpjiaaNodeK
import Derived.Test.YtdhcmnbajkpjiaaNodeL
import Derived.Test.YtdhcmnbajkpjiaaBytes
namespace Go.Proofs.Ytdhcmnbajkpjiaa
open Go.RowKit
open Go.Maps
set_option linter.unusedVariables false
set_option linter.unusedSimpArgs false
attribute [local go_sem] drewN_alloc drewN_setCell

def OnceRel (w : World) (Fb N : Nat) (i : Value) (wr : World) : Prop := ∃ (j : Nat) (own : Nat → Prop) (S : FSt), j ≤ N ∧ i = .int .i64 j ∧ ForestOver w wr own Fb 40 S
def OnceRel2 (w2 : World) (O : List Nat) (n i : Value) (wr : World) : Prop := ∃ k : Nat, k ≤ 40 ∧ i = .int .i64 k ∧ n = .int .i64 (cntO O k : Nat) ∧ Below w2.heap.size w2 wr
def OnceRel3 (w2 : World) (O : List Nat) (R : Nat → List Nat) (a i : Value) (wr : World) : Prop := ∃ k : Nat, k ≤ 40 ∧ i = .int .i64 k ∧ a = .int .i64 (((R 40).length + sumKids O R k : Nat) : Int) ∧ Below w2.heap.size w2 wr
theorem over_inv {w0 w : World} {own : Nat → Prop} {Fb n : Nat} {S : FSt} (h : ForestOver w0 w own Fb n S) : ∃ St, PC.Inv n (n + 1) St S.R := by
  obtain ⟨B, Sb, Gb, Mb, Pb, C, Nb, Lb, v, h1, ho, hv⟩ := h.ex
  obtain ⟨St, _, hc⟩ := h1.ch
  exact ⟨St, hc⟩
theorem OverStep.over {w0 w w' : World} {own : Nat → Prop} {Fb n : Nat} {S : FSt} (h : OverStep w0 w own Fb n S w') : ∃ own', ForestOver w0 w' own' Fb n S := by
  obtain ⟨own', h1, _⟩ := h
  exact ⟨own', h1⟩

set_option maxRecDepth 100000 in
set_option maxHeartbeats 4000000 in
theorem law37_NodeOnce (A : Option Addr) (n c : Nat) (xs : List Int) (w : World) (hA : BytesAt w A n xs) :
    Calls Try.prog 8 #[.slice A n c] w fun e w' => e = .returned (.bool true) ∧ Below w.heap.size w w' := by
  by_cases h80 : 80 < n
  · have h1' : (80 : Int) < (n : Int) := by omega
    clear hA
    go_enter Try.func8, Try.ntmps8
    go_wp2_with fail
    refine (law37_works _).mono ?_
    rintro e w1 ⟨rfl, h1⟩
    go_wp2_with fail
    go_ret
    exact ⟨rfl, h1⟩
  have hd1 : decide ((80 : Int) < (n : Int)) = false := by simp; omega
  have j1 : (n : Int) ≤ 80 := by omega
  obtain ⟨hlen, -, hbd, hcl⟩ := hA
  have HLEN := Lib.hid hlen
  have HBD := Lib.hid hbd
  have HC := Lib.hid hcl
  have N := Lib.hid (overf_New 40 w (by omega))
  clear hlen hbd hcl h80
  go_enter Try.func8, Try.ntmps8
  go_wp2_with fail
  refine N.out.mono ?_
  rintro e w1 ⟨Fb, o1, rfl, h1⟩
  replace h1 := Lib.hid h1
  go_wp2_with fail
  go_loopw [4] (fun i wr => OnceRel w Fb n i wr) (fun i _ => n - (intOf i).toNat)
  case atStart => exact ⟨0, o1, FSt.new 40, Nat.zero_le _, rfl, h1.out⟩
  case round =>
    clear h1 N
    obtain ⟨j, own, S, hj, rfl, ho⟩ := hrel
    have HJ := Lib.hid hj
    have HO := Lib.hid ho
    clear hj ho
    by_cases hlt : (j : Int) < n
    · obtain ⟨b, off, rfl, hb, hc⟩ := HC.out (by omega)
      have x0 := (HO.out.below.cell (p := ⟨b, off + j, none⟩) hb).trans (hc j (by omega))
      obtain ⟨x, hx⟩ : ∃ x, xs.getD j 0 = x := ⟨_, rfl⟩
      have hjl : j < xs.length := by have := HLEN.out; omega
      have hxe : xs[j] = x := by rw [← hx]; simp [List.getD, hjl]
      have hxb := HBD.out x (by rw [← hxe]; exact List.getElem_mem hjl)
      obtain ⟨hx0, hx1⟩ := hxb
      rw [hx] at x0
      have K0 := Lib.hid (overf_Root HO.out)
      have K1 := Lib.hid (overf_Child (x / 5 % 40) HO.out)
      have K2 := Lib.hid (overf_Drop (x / 5 % 40) HO.out)
      have g0 : (0 : Int) ≤ (j : Int) := by omega
      have g1 : (j : Int) < (n : Int) := hlt
      have HJN : Hid (j + 1 ≤ n ∧ n - (j + 1) < n - j) := Lib.hid (by omega)
      obtain ⟨r, hr⟩ : ∃ r, x % 5 = r := ⟨_, rfl⟩
      obtain ⟨y, hy⟩ : ∃ y, x / 5 % 40 = y := ⟨_, rfl⟩
      rw [hy] at K1 K2
      have hr' : r = 0 ∨ r = 1 ∨ r = 2 ∨ r = 3 ∨ r = 4 := by omega
      clear hx hxe hjl hb hc
      rcases hr' with rfl | rfl | rfl | rfl | rfl
      · go_wp2_with fail
        refine K0.out.mono ?_
        rintro e w2 ⟨rfl, h2⟩
        obtain ⟨o2, h2⟩ := h2.over
        replace h2 := Lib.hid h2
        generalize S.told 40 = tv
        go_wp2_with fail
        go_roundw
        case rel => exact ⟨j + 1, o2, _, HJN.out.1, by go_num, h2.out⟩
        case measure => have := HJN.out; simp [intOf]; omega
      · go_wp2_with fail
        refine K1.out.mono ?_
        rintro e w2 ⟨rfl, h2⟩
        obtain ⟨o2, h2⟩ := h2.over
        replace h2 := Lib.hid h2
        generalize S.toldC 40 y = tv
        go_wp2_with fail
        go_roundw
        case rel => exact ⟨j + 1, o2, _, HJN.out.1, by go_num, h2.out⟩
        case measure => have := HJN.out; simp [intOf]; omega
      · go_wp2_with fail
        refine K1.out.mono ?_
        rintro e w2 ⟨rfl, h2⟩
        obtain ⟨o2, h2⟩ := h2.over
        replace h2 := Lib.hid h2
        generalize S.toldC 40 y = tv
        go_wp2_with fail
        go_roundw
        case rel => exact ⟨j + 1, o2, _, HJN.out.1, by go_num, h2.out⟩
        case measure => have := HJN.out; simp [intOf]; omega
      · go_wp2_with fail
        refine K1.out.mono ?_
        rintro e w2 ⟨rfl, h2⟩
        obtain ⟨o2, h2⟩ := h2.over
        replace h2 := Lib.hid h2
        generalize S.toldC 40 y = tv
        go_wp2_with fail
        go_roundw
        case rel => exact ⟨j + 1, o2, _, HJN.out.1, by go_num, h2.out⟩
        case measure => have := HJN.out; simp [intOf]; omega
      · go_wp2_with fail
        refine K2.out.mono ?_
        rintro e w2 ⟨rfl, h2⟩
        obtain ⟨o2, h2⟩ := h2.over
        replace h2 := Lib.hid h2
        generalize dropOk S.O S.R y = tv
        go_wp2_with fail
        go_roundw
        case rel => exact ⟨j + 1, o2, _, HJN.out.1, by go_num, h2.out⟩
        case measure => have := HJN.out; simp [intOf]; omega
    · have K := Lib.hid (overf_Roots HO.out)
      obtain ⟨St, hc⟩ := over_inv HO.out
      have HS := Lib.hid (sum_all HO.out.fi hc)
      have HCN := Lib.hid (cnt_all HO.out.fi)
      have HOL := Lib.hid HO.out.fi.s.o_len
      clear hc HC HBD HLEN
      go_wp2_with fail
      refine K.out.mono ?_
      rintro e w2 ⟨A2, m2, c2, rfl, hA2, hb2⟩
      have h2 := Lib.hid (HO.out.keep hb2)
      replace hA2 := Lib.hid hA2
      clear hb2 HO K hlt HJ
      go_wp2_with fail
      go_loopw [6, 7] (fun q i wr => OnceRel2 w2 S.O q i wr) (fun q i _ => 40 - (intOf i).toNat)
      case atStart => exact ⟨0, by omega, rfl, rfl, Below.refl _ _⟩
      case round =>
        obtain ⟨k, hk, rfl, rfl, hb⟩ := hrel
        have HK := Lib.hid hk
        have HB := Lib.hid hb
        have H3 := Lib.hid (h2.out.keep hb)
        have q3 := cnt_le S.O k
        clear hb
        by_cases hlt : (k : Int) < 40
        · have K1 := overf_Is (k : Int) H3.out
          have HKN : Hid (k + 1 ≤ 40 ∧ 40 - (k + 1) < 40 - k) := Lib.hid (by omega)
          have g0 : (0 : Int) ≤ (k : Int) := by omega
          by_cases hp : (k : Int) ∈ ints S.O
          · rw [decide_eq_true hp] at K1
            replace K1 := Lib.hid K1
            have HE : Hid (cntO S.O (k + 1) = cntO S.O k + 1) := Lib.hid (by show cntO S.O k + _ = _; rw [if_pos hp])
            obtain ⟨q, hq⟩ : ∃ q, cntO S.O k = q := ⟨_, rfl⟩
            rw [hq] at q3 HE ⊢
            have q4 : (q : Int) ≤ 40 := by omega
            have K2 := overf_Parent (k : Int) H3.out
            rcases once_up h2.out.fi (in_ints.1 hp) with ⟨e, hm⟩ | ⟨i, e, hi, hm⟩
            · rw [e] at K2
              have K3 := base_Has c2 (k : Int) (hA2.out.1.keep HB.out)
              rw [decide_eq_true (in_ints.2 hm)] at K3
              replace K2 := Lib.hid K2
              replace K3 := Lib.hid K3
              clear e hm hp hq hk q3
              go_wp2_with fail
              refine K1.out.mono ?_
              rintro e w3 ⟨rfl, rfl⟩
              go_wp2_with fail
              refine K2.out.mono ?_
              rintro e w3 ⟨rfl, rfl⟩
              go_wp2_with fail
              refine K3.out.mono ?_
              rintro e w3 ⟨rfl, rfl⟩
              go_wp2_with fail
              go_roundw
              case rel => exact ⟨k + 1, HKN.out.1, by go_num, by rw [HE.out]; go_num, HB.out⟩
              case measure => have := HKN.out; simp [intOf]; omega
            · rw [e] at K2
              have K3 := overf_Is (i : Int) H3.out
              rw [decide_eq_true (in_ints.2 hi)] at K3
              have K4 := overf_Children (i : Int) H3.out
              replace K2 := Lib.hid K2
              replace K3 := Lib.hid K3
              replace K4 := Lib.hid K4
              have HM := Lib.hid (decide_eq_true (in_ints.2 hm))
              have g1 : (0 : Int) ≤ (i : Int) := by omega
              have g2 : decide ((0 : Int) ≤ (i : Int)) = true := decide_eq_true g1
              have g3 : decide ((i : Int) < (0 : Int)) = false := decide_eq_false (by omega)
              clear e hm hp hq hk hi q3
              go_wp2_with fail
              refine K1.out.mono ?_
              rintro e w3 ⟨rfl, rfl⟩
              go_wp2_with fail
              refine K2.out.mono ?_
              rintro e w3 ⟨rfl, rfl⟩
              go_wp2_with fail
              refine K3.out.mono ?_
              rintro e w3 ⟨rfl, rfl⟩
              go_wp2_with fail
              refine K4.out.mono ?_
              rintro e w4 ⟨A4, m4, c4, rfl, hA4, hb4⟩
              have K5 := base_Has c4 (k : Int) hA4.1
              rw [HM.out] at K5
              replace K5 := Lib.hid K5
              have HB4 := Lib.hid (bel_trans HB.out hb4)
              clear hA4 hb4
              go_wp2_with fail
              refine K5.out.mono ?_
              rintro e w5 ⟨rfl, rfl⟩
              go_wp2_with fail
              go_roundw
              case rel => exact ⟨k + 1, HKN.out.1, by go_num, by rw [HE.out]; go_num, HB4.out⟩
              case measure => have := HKN.out; simp [intOf]; omega
          · rw [decide_eq_false hp] at K1
            replace K1 := Lib.hid K1
            have HE : Hid (cntO S.O (k + 1) = cntO S.O k) := Lib.hid (by show cntO S.O k + _ = _; rw [if_neg hp]; omega)
            obtain ⟨q, hq⟩ : ∃ q, cntO S.O k = q := ⟨_, rfl⟩
            rw [hq] at q3 HE ⊢
            clear hp hq hk q3
            go_wp2_with fail
            refine K1.out.mono ?_
            rintro e w3 ⟨rfl, rfl⟩
            go_wp2_with fail
            go_roundw
            case rel => exact ⟨k + 1, HKN.out.1, by go_num, by rw [HE.out], HB.out⟩
            case measure => have := HKN.out; simp [intOf]; omega
        · obtain rfl : k = 40 := by omega
          rw [HCN.out]
          have HF := Lib.hid h2.out
          have HLL : Hid (m2 = (S.R 40).length) := Lib.hid (by have := hA2.out.1.1; rw [← this]; simp [ints])
          have q5 := HOL.out
          clear hk q3 h2
          go_wp2_with fail
          go_loopw [9, 10] (fun a i wr => OnceRel3 w2 S.O S.R a i wr) (fun a i _ => 40 - (intOf i).toNat)
          case atStart => exact ⟨0, by omega, rfl, by rw [HLL.out]; rfl, HB.out⟩
          case round =>
            obtain ⟨k, hk, rfl, rfl, hb⟩ := hrel
            have HK := Lib.hid hk
            have HB5 := Lib.hid hb
            have H5 := Lib.hid (HF.out.keep hb)
            have q6 := sum_mono (O := S.O) (R := S.R) hk
            have hS := HS.out
            clear hb
            by_cases hlt : (k : Int) < 40
            · have K1 := Lib.hid (overf_Children (k : Int) H5.out)
              have HKN : Hid (k + 1 ≤ 40 ∧ 40 - (k + 1) < 40 - k) := Lib.hid (by omega)
              have HSS : Hid (∀ m : Nat, m = (ints (kidV S.O S.R (k : Int))).length → (S.R 40).length + sumKids S.O S.R (k + 1) = (S.R 40).length + sumKids S.O S.R k + m ∧ (S.R 40).length + sumKids S.O S.R k + m ≤ 40) := Lib.hid (fun m hm => by
                have h1 := sum_mono (O := S.O) (R := S.R) (show k + 1 ≤ 40 by omega)
                have e : sumKids S.O S.R (k + 1) = sumKids S.O S.R k + (kidV S.O S.R (k : Int)).length := rfl
                have e2 : (ints (kidV S.O S.R (k : Int))).length = (kidV S.O S.R (k : Int)).length := by simp [ints]
                omega)
              obtain ⟨q, hq⟩ : ∃ q, (S.R 40).length + sumKids S.O S.R k = q := ⟨_, rfl⟩
              rw [hq] at HSS ⊢
              clear hq hS q6 hk
              go_wp2_with fail
              refine K1.out.mono ?_
              rintro e w4 ⟨A4, m4, c4, rfl, hA4, hb4⟩
              have HB6 := Lib.hid (bel_trans HB5.out hb4)
              obtain ⟨hx, hx2⟩ := HSS.out m4 hA4.1.1.symm
              have HX := Lib.hid hx
              have q7 : (q : Int) + (m4 : Int) ≤ 40 := by omega
              clear hA4 hb4 hx hx2
              go_wp2_with fail
              go_roundw
              case rel => exact ⟨k + 1, HKN.out.1, by go_num, by rw [HX.out]; go_num, HB6.out⟩
              case measure => have := HKN.out; simp [intOf]; omega
            · obtain rfl : k = 40 := by omega
              rw [hS]
              clear hS q6 hk hlt
              go_wp2_with fail
              refine (nof_Root (.inl rfl)).mono ?_
              rintro e w4 ⟨rfl, rfl⟩
              go_wp2_with fail
              have HZ : Hid (NoF (wr.alloc (Obj.cells #[.pointer none, .pointer none, .slice none 0 0] 77)) (some ⟨wr.heap.size, 0, none⟩)) := Lib.hid (.inr ⟨_, rfl, by simp [go_sem]⟩)
              have HW := Lib.hid (H5.out.keep (bel_alloc (Below.refl _ _) (Obj.cells #[.pointer none, .pointer none, .slice none 0 0] 77)))
              refine (nof_Child 0 HZ.out).mono ?_
              rintro e w4 ⟨rfl, rfl⟩
              go_wp2_with fail
              refine (overf_Len HW.out).mono ?_
              rintro e w4 ⟨rfl, rfl⟩
              go_wp2_with fail
              refine (nof_Drop 0 (.inl rfl)).mono ?_
              rintro e w4 ⟨rfl, rfl⟩
              go_wp2_with fail
              refine (nof_Is 0 HZ.out).mono ?_
              rintro e w4 ⟨rfl, rfl⟩
              go_wp2_with fail
              refine (nof_Right 0 0 (.inl rfl)).mono ?_
              rintro e w4 ⟨rfl, rfl⟩
              go_wp2_with fail
              refine (nof_Parent 0 (.inl rfl)).mono ?_
              rintro e w4 ⟨rfl, rfl⟩
              go_wp2_with fail
              refine (nof_First 0 HZ.out).mono ?_
              rintro e w4 ⟨rfl, rfl⟩
              go_wp2_with fail
              refine (nof_Next 0 (.inl rfl)).mono ?_
              rintro e w4 ⟨rfl, rfl⟩
              go_wp2_with fail
              refine (nof_Children 0 (.inl rfl)).mono ?_
              rintro e w4 ⟨rfl, rfl⟩
              go_wp2_with fail
              refine (nof_Roots HZ.out).mono ?_
              rintro e w4 ⟨rfl, rfl⟩
              go_wp2_with fail
              refine (nof_Len (.inl rfl)).mono ?_
              rintro e w4 ⟨rfl, rfl⟩
              go_wp2_with fail
              refine (nof_Len HZ.out).mono ?_
              rintro e w4 ⟨rfl, rfl⟩
              go_wp2_with fail
              refine (law37_works _).mono ?_
              rintro e w4 ⟨rfl, h4⟩
              have HFIN := Lib.hid (bel_trans HW.out.below h4)
              go_wp2_with fail
              go_ret
              exact ⟨rfl, HFIN.out⟩
end Go.Proofs.Ytdhcmnbajkpjiaa
