/-
  The walk of ChainBoth.
-/
import Derived.Test.YtdhcmnbajkpjiaaChainJ
import Derived.Test.YtdhcmnbajkpjiaaBytes
import Derived.BigQuiet
import Derived.Deep.QuietTactic
import Derived.Deep.LoopGhost
namespace Go.Proofs.Ytdhcmnbajkpjiaa
open Go.RowKit
set_option linter.unusedVariables false
attribute [local go_sem] drewN_alloc drewN_setCell

theorem ZeroAt.keep {w w' : World} {C : Nat} (h : ZeroAt w C) (hC : C < w.heap.size) (hb : Below w.heap.size w w') : ZeroAt w' C :=
  ⟨(hb.cell (p := ⟨C, 0, none⟩) hC).trans h.1, (hb.cell (p := ⟨C, 1, none⟩) hC).trans h.2⟩
/-- What the law asks of a row's node. -/
theorem row_node {w : World} {C Nb Lb n l : Nat} {R : Nat → List Nat} (h : ChainRows w C Nb Lb n l R) {k : Nat} (hk : k < l) {j : Nat} (hj : j < (R k).length) :
    PC.ofV l R ((R k)[j] : Nat) = k ∧ PC.backV l R ((R k)[j] : Nat) = PC.lastD ((R k).take j) ∧ PC.lastD ((R k).take (j + 1)) = ((R k)[j] : Nat) := by
  obtain ⟨S, _, hi⟩ := h
  have hx := hi.lt k hk _ (List.getElem_mem hj)
  refine ⟨?_, ?_, ?_⟩
  · rw [← hi.ofV hx]; exact hi.ls k hk _ (List.getElem_mem hj)
  · rw [← hi.backV hx]
    exact hi.bk k hk _ _ ((R k).drop (j + 1)) (by rw [← List.drop_eq_getElem_cons hj, List.take_append_drop])
  · rw [List.take_succ_eq_append_getElem hj, PC.lastD_snoc]

def BothRel (w : World) (C Nb Lb n : Nat) (i : Value) (wr : World) : Prop :=
  ∃ j : Nat, j ≤ n ∧ i = .int .i64 j ∧ ∃ R, ChainOver w wr C Nb Lb 256 3 R
def BothOut (w : World) (C Nb Lb : Nat) (R : Nat → List Nat) (g : Nat) (k : Value) (wr : World) : Prop :=
  ∃ j : Nat, j + g = 3 ∧ k = .int .i64 j ∧ ChainOver w wr C Nb Lb 256 3 R
def BothIn (w1 : World) (r : List Nat) (g : Nat) (x i : Value) (wr : World) : Prop :=
  g ≤ r.length ∧ i = .int .i64 ((g : Int) - 1) ∧ x = .int .i64 (PC.lastD (r.take g)) ∧ Below w1.heap.size w1 wr

set_option maxRecDepth 100000 in
theorem law05_ChainBoth_long (A B : Option Addr) (n c m d : Nat) (w : World) (h : 300 < n ∨ 300 < m) (hn : n ≤ 9223372036854775807) (hm : m ≤ 9223372036854775807) :
    Calls Try.prog 5 #[.slice A n c, .slice B m d] w fun e w' => e = .returned (.bool true) ∧ Below w.heap.size w w' := by
  by_cases h1 : 300 < n
  · have h1' : (300 : Int) < (n : Int) := by omega
    clear h
    go_enter Try.func5, Try.ntmps5
    go_wp2_with fail
    refine (law05_works _).mono ?_
    rintro e w1 ⟨rfl, h1⟩
    go_wp2_with fail
    go_ret
    exact ⟨rfl, h1⟩
  · have h1' : (n : Int) ≤ 300 := by omega
    have h2' : (300 : Int) < (m : Int) := by omega
    clear h h1
    go_enter Try.func5, Try.ntmps5
    go_wp2_with fail
    refine (law05_works _).mono ?_
    rintro e w1 ⟨rfl, h1⟩
    go_wp2_with fail
    go_ret
    exact ⟨rfl, h1⟩

set_option maxRecDepth 100000 in
set_option maxHeartbeats 4000000 in
theorem law05_ChainBoth_some (A B : Option Addr) (n c m d : Nat) (xs ys : List Int) (w : World) (hA : BytesAt w A n xs) (hB : BytesAt w B m ys) (h300 : n ≤ 300) (g300 : m ≤ 300) :
    Calls Try.prog 5 #[.slice A n c, .slice B m d] w fun e w' => e = .returned (.bool true) ∧ Below w.heap.size w w' := by
  have j1 : (n : Int) ≤ 300 := by omega
  have j2 : (m : Int) ≤ 300 := by omega
  have HA := Lib.hid hA
  have HB := Lib.hid hB
  have N := Lib.hid (over_New 3 256 w (by omega) (by omega))
  clear hA hB
  go_enter Try.func5, Try.ntmps5
  go_wp2_with fail
  refine N.out.mono ?_
  rintro e w1 ⟨C, Nb, Lb, rfl, h1⟩
  replace h1 := Lib.hid h1
  go_wp2_with fail
  go_loopw [6] (fun i wr => BothRel w C Nb Lb n i wr) (fun i _ => n - (intOf i).toNat)
  case atStart => exact ⟨0, Nat.zero_le _, rfl, _, h1.out⟩
  case round =>
    clear h1 N
    obtain ⟨j, hj, rfl, R, ho⟩ := hrel
    have HO := Lib.hid ho
    clear ho
    by_cases hlt : (j : Int) < n
    · obtain ⟨b, off, rfl, hb, hc⟩ := HA.out.2.2.2 (by omega)
      have x0 := (HO.out.below.cell (p := ⟨b, off + j, none⟩) hb).trans (hc j (by omega))
      obtain ⟨hx0, hx1⟩ := HA.out.bd (i := j) (by omega)
      obtain ⟨x, hx⟩ : ∃ x, xs.getD j 0 = x := ⟨_, rfl⟩
      rw [hx] at x0 hx0 hx1
      have g0 : (0 : Int) ≤ (j : Int) := by omega
      clear hx hc hb hj
      go_wp2_with fail
      refine (over_Add _ _ HO.out).mono ?_
      rintro e w2 ⟨rfl, h2, -⟩
      replace h2 := Lib.hid h2
      go_wp2_with fail
      go_roundw
      case rel => exact ⟨j + 1, by omega, by go_num, _, h2.out⟩
      case measure => simp [intOf]; omega
    · clear hj
      go_wp2_with fail
      go_loopw [7] (fun i wr => BothRel w C Nb Lb m i wr) (fun i _ => m - (intOf i).toNat)
      case atStart => exact ⟨0, Nat.zero_le _, rfl, _, HO.out⟩
      case round =>
        clear HO
        obtain ⟨j', hj, rfl, R, ho⟩ := hrel
        have HO := Lib.hid ho
        clear ho
        by_cases hlt : (j' : Int) < m
        · obtain ⟨b, off, rfl, hb, hc⟩ := HB.out.2.2.2 (by omega)
          have x0 := (HO.out.below.cell (p := ⟨b, off + j', none⟩) hb).trans (hc j' (by omega))
          obtain ⟨hx0, hx1⟩ := HB.out.bd (i := j') (by omega)
          obtain ⟨x, hx⟩ : ∃ x, ys.getD j' 0 = x := ⟨_, rfl⟩
          rw [hx] at x0 hx0 hx1
          have g0 : (0 : Int) ≤ (j' : Int) := by omega
          clear hx hc hb hj
          go_wp2_with fail
          refine (over_Drop _ HO.out).mono ?_
          rintro e w2 ⟨rfl, h2, -⟩
          replace h2 := Lib.hid h2
          go_wp2_with fail
          go_roundw
          case rel => exact ⟨j' + 1, by omega, by go_num, _, h2.out⟩
          case measure => simp [intOf]; omega
        · clear hj
          go_wp2_with fail
          go_loopg [8] 3 (fun g k wr => BothOut w C Nb Lb R g k wr)
          case atStart => exact ⟨0, by omega, rfl, HO.out⟩
          case round =>
            clear HO
            obtain ⟨k, hk, rfl, ho⟩ := hrel
            obtain ⟨gg, rfl⟩ : ∃ gg : Nat, gg = gk := ⟨_, rfl⟩
            obtain ⟨wo, rfl⟩ : ∃ wo : World, wo = wr := ⟨_, rfl⟩
            have HO := Lib.hid ho
            clear ho
            have k0 : (0 : Int) ≤ (k : Int) := by omega
            by_cases hlt3 : k < 3
            · have k3 : (k : Int) < 3 := by omega
              have L := chain_List (k : Int) HO.out.rows
              rw [PC.rowV_in hlt3] at L
              have La := fun W (h : ChainOver w W C Nb Lb 256 3 R) => chain_Last (k : Int) h.rows
              rw [PC.rowV_in hlt3] at La
              have Le := fun W (h : ChainOver w W C Nb Lb 256 3 R) => chain_Len (k : Int) h.rows
              rw [PC.rowV_in hlt3] at Le
              have node := fun j hj => row_node HO.out.rows hlt3 (j := j) hj
              obtain ⟨S, hS1, hS2⟩ := HO.out.rows
              have hlen := hS2.len hlt3
              obtain ⟨r, hr⟩ : ∃ r, R k = r := ⟨_, rfl⟩
              rw [hr] at L La Le hlen
              have ND : Hid (∀ j (hj : j < r.length), PC.ofV 3 R (r[j] : Nat) = k ∧ PC.backV 3 R (r[j] : Nat) = PC.lastD (r.take j) ∧ PC.lastD (r.take (j + 1)) = (r[j] : Nat)) := by
                subst hr
                exact Lib.hid node
              replace L := Lib.hid L
              replace La := Lib.hid La
              replace Le := Lib.hid Le
              replace hlen := Lib.hid hlen
              have HK := Lib.hid hk
              clear node hr hS1 hS2 hk
              go_wp2_with fail
              refine L.out.mono ?_
              rintro e w2 ⟨A2, n2, c2, rfl, i2, b2⟩
              have h2 := Lib.hid (HO.out.keep b2)
              replace i2 := Lib.hid i2.1
              clear b2
              go_wp2_with fail
              refine (La.out _ h2.out).mono ?_
              rintro e w3 ⟨rfl, rfl⟩
              have hn2 : n2 = r.length := by have := i2.out.1; rw [ints_len] at this; omega
              subst hn2
              have lm : (r.length : Int) ≤ 256 := by have := hlen.out; omega
              have lm0 : (0 : Int) ≤ (r.length : Int) := by omega
              go_wp2_with fail
              go_loopg [10, 11] r.length (fun g x i wr => BothIn w2 r g x i wr)
              case atStart => exact ⟨Nat.le_refl _, rfl, by rw [List.take_length], Below.refl _ _⟩
              case round =>
                obtain ⟨hg, rfl, rfl, hbel⟩ := hrel
                have h4 := Lib.hid (h2.out.keep hbel)
                replace hbel := Lib.hid hbel
                have hgm : (gk : Int) ≤ 256 := by omega
                replace hg := Lib.hid hg
                by_cases h0 : gk = 0
                · subst h0
                  have e0 : ((0 : Nat) : Int) - 1 = -1 := by omega
                  rw [e0, List.take_zero, PC.lastD_nil]
                  clear e0
                  go_wp2_with fail
                  refine (Le.out _ h4.out).mono ?_
                  rintro e w5 ⟨rfl, rfl⟩
                  have e5 : ((r.length : Int) != (r.length : Int)) = false := by simp
                  go_wp2_with fail
                  go_roundg (gg - 1)
                  case measure => have := HK.out; omega
                  case rel => exact ⟨k + 1, by have := HK.out; omega, by go_num, h4.out⟩
                · obtain ⟨j, rfl⟩ : ∃ j, gk = j + 1 := ⟨gk - 1, by omega⟩
                  have hjr : j < r.length := by have := hg.out; omega
                  obtain ⟨n1, n2, n3⟩ := ND.out j hjr
                  have e0 : ((j + 1 : Nat) : Int) - 1 = (j : Int) := by omega
                  rw [e0, n3]
                  obtain ⟨b2, o2, eA, hb2, hc2⟩ := i2.out.2.2 (by omega)
                  subst eA
                  have v0 := (hbel.out.cell (p := ⟨b2, o2 + j, none⟩) hb2).trans (hc2 j hjr)
                  have hv : (ints r).getD j 0 = ((r[j] : Nat) : Int) := by simp [ints, List.getD, hjr]
                  rw [hv] at v0
                  have Of := chain_Of ((r[j] : Nat) : Int) h4.out.rows
                  rw [n1] at Of
                  have Bk := chain_Back ((r[j] : Nat) : Int) h4.out.rows
                  rw [n2] at Bk
                  obtain ⟨v, hv'⟩ : ∃ v : Nat, r[j] = v := ⟨_, rfl⟩
                  rw [hv'] at v0 Of Bk ⊢
                  have j0 : (0 : Int) ≤ (j : Int) := by omega
                  have j3 : (j : Int) < (r.length : Int) := by omega
                  have e6 : ((v : Int) != (v : Int)) = false := by simp
                  have e7 : ((k : Int) != (k : Int)) = false := by simp
                  have e8 : (j : Int) - 1 = (j : Int) - 1 := rfl
                  replace Of := Lib.hid Of
                  replace Bk := Lib.hid Bk
                  clear hv hv' n1 n2 n3 e0 hc2 h0 hjr e8
                  go_wp2_with fail
                  refine Of.out.mono ?_
                  rintro e w5 ⟨rfl, rfl⟩
                  go_wp2_with fail
                  refine Bk.out.mono ?_
                  rintro e w5 ⟨rfl, rfl⟩
                  go_wp2_with fail
                  go_roundg j
                  case measure => omega
                  case rel => exact ⟨by have := hg.out; omega, rfl, rfl, hbel.out⟩
            · obtain rfl : k = 3 := by omega
              clear hlt3 hk
              have Z : Hid (ZeroAt (wo.alloc (.cells #[.slice none 0 0, .slice none 0 0] 45)) wo.heap.size) := by
                have z : ZeroAt (wo.alloc (.cells #[.slice none 0 0, .slice none 0 0] 45)) wo.heap.size := ⟨by simp [go_sem], by simp [go_sem]⟩
                exact Lib.hid z
              have HZ := Lib.hid (HO.out.keep (bel_alloc (Below.refl _ _) (.cells #[.slice none 0 0, .slice none 0 0] 45)))
              have SZ := Lib.hid (show wo.heap.size < (wo.alloc (.cells #[.slice none 0 0, .slice none 0 0] 45)).heap.size by simp)
              clear HO
              go_wp2_with fail
              refine (chain_Add_nil _ _ _).mono ?_
              rintro e w1 ⟨rfl, rfl⟩
              go_wp2_with fail
              refine (zero_Add _ _ Z.out).mono ?_
              rintro e w1 ⟨rfl, rfl⟩
              go_wp2_with fail
              refine (chain_Drop_nil _ _).mono ?_
              rintro e w1 ⟨rfl, rfl⟩
              go_wp2_with fail
              refine (zero_Drop _ Z.out).mono ?_
              rintro e w1 ⟨rfl, rfl⟩
              go_wp2_with fail
              refine (chain_Of_nil _ _).mono ?_
              rintro e w1 ⟨rfl, rfl⟩
              go_wp2_with fail
              refine (zero_First _ Z.out).mono ?_
              rintro e w1 ⟨rfl, rfl⟩
              go_wp2_with fail
              refine (chain_Last_nil _ _).mono ?_
              rintro e w1 ⟨rfl, rfl⟩
              go_wp2_with fail
              refine (zero_Next _ Z.out).mono ?_
              rintro e w1 ⟨rfl, rfl⟩
              go_wp2_with fail
              refine (chain_Back_nil _ _).mono ?_
              rintro e w1 ⟨rfl, rfl⟩
              go_wp2_with fail
              refine (chain_Len_nil _ _).mono ?_
              rintro e w1 ⟨rfl, rfl⟩
              go_wp2_with fail
              refine (zero_Len _ Z.out).mono ?_
              rintro e w1 ⟨rfl, rfl⟩
              go_wp2_with fail
              refine (chain_List_nil _ _).mono ?_
              rintro e w1 ⟨A1, n1, c1, rfl, i1, b1⟩
              obtain rfl : n1 = 0 := by have := i1.1.1; simp at this; omega
              have Z1 := Lib.hid (Z.out.keep SZ.out b1)
              have HZ1 := Lib.hid (HZ.out.keep b1)
              clear i1 b1
              go_wp2_with fail
              refine (zero_List _ Z1.out).mono ?_
              rintro e w2 ⟨A2, n2, c2, rfl, i2, b2⟩
              obtain rfl : n2 = 0 := by have := i2.1.1; simp at this; omega
              have HZ2 := Lib.hid (HZ1.out.keep b2)
              clear i2 b2
              go_wp2_with fail
              refine (law05_works _).mono ?_
              rintro e w3 ⟨rfl, h3⟩
              go_wp2_with fail
              go_ret
              exact ⟨rfl, (HZ2.out.keep h3).below⟩

theorem law05_ChainBoth (A B : Option Addr) (n c m d : Nat) (xs ys : List Int) (w : World) (hA : BytesAt w A n xs) (hB : BytesAt w B m ys) :
    Calls Try.prog 5 #[.slice A n c, .slice B m d] w fun e w' => e = .returned (.bool true) ∧ Below w.heap.size w w' := by
  by_cases h : 300 < n ∨ 300 < m
  · exact law05_ChainBoth_long A B n c m d w h hA.2.1 hB.2.1
  · exact law05_ChainBoth_some A B n c m d xs ys w hA hB (by omega) (by omega)
end Go.Proofs.Ytdhcmnbajkpjiaa
