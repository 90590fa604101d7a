/-
  The reference's Spare, Short, Room and First; order.First.
-/
import Derived.Test.YthmjbfocpdiikaaOrdH
namespace Go.Proofs.Ythmjbfocpdiikaa
open Go.RowKit
set_option linter.unusedVariables false
set_option linter.unusedSimpArgs false
attribute [local go_sem] drewN_alloc drewN_setCell

def GivesOwn (w : World) (xs : List Int) (e : Ending) (w' : World) : Prop := ∃ v, e = .returned v ∧ OwnI w.heap.size w' v xs ∧ Below w.heap.size w w'
def SpO (w1 : World) (xs : List Int) (n : Nat) (out i : Value) (wr : World) : Prop :=
  ∃ (k c : Nat) (A : Option Addr), k ≤ n ∧ i = .int .i64 k ∧ out = .slice A k c ∧ OwnI w1.heap.size wr out (xs.take k) ∧ Below w1.heap.size w1 wr
def SpI (W : World) (l : List PO.Mem) (f : Int) (o : List Nat) (i : Nat) (s k : Value) (wr : World) : Prop :=
  ∃ kk : Nat, k = .int .i64 kk ∧ kk ≤ o.length ∧ s = .int .i64 (f + PO.sumH l (o.take kk)) ∧ i ∉ o.take kk ∧ PO.spareGo l f o i = PO.spareGo l (f + PO.sumH l (o.take kk)) (o.drop kk) i ∧ wr = W

set_option maxRecDepth 100000 in
set_option maxHeartbeats 8000000 in
theorem ref28_Spare {A : Option Addr} {n : Nat} {l : List PO.Mem} (c : Nat) (f : Int) {w : World} (h : MemAt w A n l) (hn : n ≤ 1000) :
    Calls Try.prog 54 #[.int .i64 f, .slice A n c] w (GivesOwn w (PO.spare f l)) := by
  have hl := h.1
  have K1 := ref28_Order c f h hn
  have es : (PO.order f l).2 = PO.safe f l := rfl
  rw [es] at K1
  cases hs : PO.safe f l
  · have HG : Hid (∀ W, Below w.heap.size w W → GivesOwn w (PO.spare f l) (.returned (.slice none 0 0)) W) := Lib.hid (fun W hW => ⟨_, rfl, by unfold PO.spare; rw [hs, if_neg (by simp)]; exact OwnI.nil _ _, hW⟩)
    rw [hs] at K1
    replace K1 := Lib.hid K1
    clear h hs es
    go_enter Try.func54, Try.ntmps54
    go_wp2_with fail
    refine K1.out.mono ?_
    rintro e w1 ⟨v, rfl, ov, h1⟩
    clear ov
    go_wp2_with fail
    go_loopw [7, 8] (fun v i wr => v = .slice none 0 0 ∧ i = .int .i64 0 ∧ wr = w1) (fun _ _ _ => 0)
    case atStart => exact ⟨rfl, rfl, rfl⟩
    case round =>
      obtain ⟨rfl, rfl, rfl⟩ := hrel
      go_wp2_with fail
      go_ret
      exact HG.out _ h1
  · obtain ⟨f0, f1, fa⟩ := PO.may_iff.1 (PO.safe_may hs)
    obtain ⟨eo, hon⟩ := PO.order_yes hs
    obtain ⟨q1, q2, q3, _⟩ := PO.takenAll_spec (PO.safe_may hs)
    rw [eo, hs] at K1
    have hsl := PO.spare_len hs
    have HAT : Hid (∀ i, i < n → (PO.spare f l).getD i 0 = PO.spareGo l f (PO.takenAll f l) i ∧ i ∈ PO.takenAll f l) := Lib.hid (fun i hi => ⟨PO.spare_at hs (by omega), PO.all_in _ _ q1 q2 hon i (by omega)⟩)
    obtain ⟨xs, hxs⟩ : ∃ xs, PO.spare f l = xs := ⟨_, rfl⟩
    rw [hxs] at hsl HAT
    rw [hxs]
    obtain ⟨o, ho⟩ : ∃ o, PO.takenAll f l = o := ⟨_, rfl⟩
    rw [ho] at K1 hon q1 q2 q3 HAT
    replace K1 := Lib.hid K1
    have HQ1 := Lib.hid q1
    have HQ2 := Lib.hid q2
    have HQ3 := Lib.hid q3
    have HFA := Lib.hid fa
    have HM := Lib.hid h.2.2.2
    have HBD := Lib.hid h.2.2.1
    clear h hs ho eo es q1 q2 q3 fa hxs
    go_enter Try.func54, Try.ntmps54
    go_wp2_with fail
    refine K1.out.mono ?_
    rintro e w1 ⟨v, rfl, ov, h1⟩
    obtain ⟨OA, oc, rfl, hoi, _⟩ := ov.ints
    rw [PO.ints_len, hon, hl]
    rw [PO.ints_len, hon, hl] at hoi
    have HOI := Lib.hid hoi.2.2
    clear ov hoi
    go_wp2_with fail
    go_loopw [7, 8] (fun out i wr => SpO w1 xs n out i wr) (fun _ i _ => n - (intOf i).toNat)
    case atStart => exact ⟨0, 0, none, Nat.zero_le _, rfl, rfl, by rw [List.take_zero]; exact OwnI.nil _ _, Below.refl _ _⟩
    case round =>
      obtain ⟨i, oc', OA', hi, rfl, rfl, hown, hbel⟩ := hrel
      have HO := Lib.hid hown
      have hw : Below w.heap.size w wr := bel_trans' h1 hbel h1.size
      clear hown
      by_cases hlt : (i : Int) < (n : Int)
      · have hin : i < n := by omega
        obtain ⟨hat, hmem⟩ := HAT.out i hin
        have HMEM := Lib.hid hmem
        have HATI := Lib.hid hat
        clear hmem hat
        obtain ⟨ob, oof, rfl, hob, hoc⟩ := HOI.out (by omega)
        obtain ⟨b, off, rfl, hb, hcs⟩ := HM.out (by omega)
        have HOC := Lib.hid hoc
        have HCS := Lib.hid hcs
        clear hoc hcs
        go_wp2_with fail
        go_loopw [9, 10] (fun s k wr' => SpI wr l f o i s k wr') (fun _ k _ => n - (intOf k).toNat)
        case atStart => exact ⟨0, rfl, Nat.zero_le _, by simp [PO.sumH], by simp, by simp [PO.sumH], rfl⟩
        case round =>
          obtain ⟨k, rfl, hk, rfl, hni, hsp, rfl⟩ := hrel
          have hkl : k < o.length := by
            rcases Nat.lt_or_ge k o.length with h | h
            · exact h
            · rw [List.take_of_length_le h] at hni
              exact absurd HMEM.out hni
          have hkn : k < n := by omega
          have HNI := Lib.hid hni
          have HSP := Lib.hid hsp
          have hsb := sum_bd HFA.out (HQ1.out.sublist (List.take_sublist k o)) (fun x hx => HQ2.out x (List.mem_of_mem_take hx))
          have hsb2 := sum_bd HFA.out (HQ1.out.sublist (List.take_sublist (k + 1) o)) (fun x hx => HQ2.out x (List.mem_of_mem_take hx))
          have hst := PO.sum_take (l := l) (o := o) (k := k) hkl
          have hxl := (HQ3.out k hkl).1
          have hss := PO.spare_step (l := l) (f := f + PO.sumH l (o.take k)) hkl i
          have HTM := Lib.hid (PO.take_mem hkl i)
          clear hni hsp
          have ok0 := (hbel.cell (p := ⟨ob, oof + k, none⟩) (by dsimp only; omega)).trans (HOC.out k hkn)
          have ei : (PO.ints o).getD k 0 = ((o.getD k 0 : Nat) : Int) := by simp [PO.ints, List.getD, hkl]
          rw [ei] at ok0
          obtain ⟨s, hse⟩ : ∃ s, f + PO.sumH l (o.take k) = s := ⟨_, rfl⟩
          rw [hse] at hss
          obtain ⟨x, hx⟩ : ∃ x, o.getD k 0 = x := ⟨_, rfl⟩
          rw [hx] at ok0 hst hxl hss
          have HX := Lib.hid hx
          have j1 : (0 : Int) ≤ (k : Int) := by omega
          have j2 : (k : Int) < (n : Int) := by omega
          have i0 : (0 : Int) ≤ (i : Int) := by omega
          have x0 : (0 : Int) ≤ (x : Int) := by omega
          have x1 : (x : Int) < (n : Int) := by omega
          clear ei hx
          by_cases hxi : x = i
          · subst hxi
            rw [if_pos rfl] at hss
            obtain ⟨z0, z1, z2, z3⟩ := (HCS.out x hin).keep hw hb
            have bd : MemBd (l.getD x PO.m0) := by rw [PO.getD_at hxl]; exact HBD.out _ (List.getElem_mem _)
            obtain ⟨m, hm⟩ : ∃ m, l.getD x PO.m0 = m := ⟨_, rfl⟩
            rw [hm] at bd hss z0 z1 z2 z3
            have hnd := need_bd2 m
            have KN := Lib.hid (fun W => ref26_Need m.2.1 m.2.2.1 m.2.2.2 W bd.2.1 bd.2.2.1 bd.2.2.2)
            have en : PA.need m.2.1 m.2.2.1 m.2.2.2 = PO.need m := rfl
            rw [en] at KN
            obtain ⟨nd, hne⟩ : ∃ nd, PO.need m = nd := ⟨_, rfl⟩
            rw [hne] at KN hss hnd
            have HV : Hid (xs.take (x + 1) = xs.take x ++ [s - nd]) := Lib.hid (by
              have e1 : xs.getD x 0 = s - nd := by rw [HATI.out, HSP.out, hse, hss]
              have hxx : x < xs.length := by omega
              rw [List.take_add_one, List.getElem?_eq_getElem hxx, ← e1]
              simp [List.getD, hxx])
            rw [hse]
            have w1' : IntKind.i64.wrap (s - nd) = s - nd := IntWalk.i64_in _ (by omega)
            have g1 : ((x : Int) != (x : Int)) = false := by simp
            have hlen1 : (xs.take x).length = x := by rw [List.length_take]; omega
            have HSE := Lib.hid hse
            clear hss hm bd hne en hst hsb hsb2 hse
            go_wp2_with fail
            refine (KN.out _).mono ?_
            rintro e w4 ⟨rfl, h4⟩
            have t4 : Below w1.heap.size w1 w4 := bel_trans' hbel h4 hbel.size
            go_wp2_with (at_builtin; refine app_listI rfl (.tmp 46) (.tmp 55) rfl w1.heap.size _ (xs.take x) rfl (HO.out.keep (bel_alloc h4 _)) (some ⟨w4.heap.size, 0, none⟩) 1 1 [s - nd] rfl (src_oneI (by simp [go_sem])) (by rw [hlen1]; omega) (by have := t4.size; simp; omega) ?_; intro v9 w9 ho9 hb9; rw [← HV.out] at ho9; obtain ⟨A9, c9, rfl, _, _, _⟩ := ho9.ints; have hlen2 : (xs.take (x + 1)).length = x + 1 := (by rw [List.length_take]; omega); rw [hlen2] at ho9; replace ho9 := Lib.hid ho9; have b9 : Below w1.heap.size w1 w9 := bel_trans' (bel_alloc t4 _) hb9 (Nat.le_refl _); rw [hlen2])
            go_roundw
            case rel => exact ⟨x + 1, c9, A9, by omega, by go_num, by go_num, ho9.out, b9⟩
            case measure => simp [intOf] <;> omega
          · rw [if_neg hxi] at hss
            have g1 : ((x : Int) != (i : Int)) = true := by simp; omega
            have g2 : ¬ (x : Int) = (i : Int) := by omega
            have g3 : ¬ x = i := hxi
            obtain ⟨z0, z1, z2, z3⟩ := (HCS.out x (by omega)).keep hw hb
            obtain ⟨m, hm⟩ : ∃ m, l.getD x PO.m0 = m := ⟨_, rfl⟩
            rw [hm] at hss hst z0 z1 z2 z3
            have w1' : IntKind.i64.wrap (s + m.2.2.1) = s + m.2.2.1 := IntWalk.i64_in _ (by omega)
            have HE : Hid (f + PO.sumH l (o.take (k + 1)) = s + m.2.2.1) := Lib.hid (by omega)
            have HSS := Lib.hid hss
            rw [hse]
            have HSE := Lib.hid hse
            clear hss hm hst hsb hsb2 hse
            go_wp2_with fail
            go_roundw
            case rel => exact ⟨k + 1, by go_num, by omega, by rw [HE.out], fun h => by
              rcases HTM.out.1 h with h | h
              · exact HNI.out h
              · exact hxi (by rw [HX.out] at h; exact h.symm), by rw [HE.out, HSP.out, HSE.out]; exact HSS.out, rfl⟩
            case measure => simp [intOf] <;> omega
      · have e0 : xs.take i = xs := List.take_of_length_le (by omega)
        have HFIN : Hid (GivesOwn w xs (.returned (.slice OA' i oc')) wr) := Lib.hid ⟨_, rfl, by have := HO.out.mono (B' := w.heap.size) h1.size; rwa [e0] at this, hw⟩
        go_wp2_with fail
        go_ret
        exact HFIN.out
end Go.Proofs.Ythmjbfocpdiikaa
