/-
  The reference of layer 28: in, Taken, Order.
-/
import Derived.Test.YthmjbfocpdiikaaMemA
import Derived.Test.YthmjbfocpdiikaaPlainMem2
import Derived.Test.YthmjbfocpdiikaaOwnI
namespace Go.Proofs.Ythmjbfocpdiikaa
open Go.RowKit
set_option linter.unusedVariables false
set_option linter.unusedSimpArgs false
attribute [local go_sem] drewN_alloc drewN_setCell

def InRel (w : World) (xs : List Int) (x : Int) (n : Nat) (i : Value) (wr : World) : Prop :=
  ∃ k : Nat, k ≤ n ∧ i = .int .i64 k ∧ (∀ j, j < k → xs.getD j 0 ≠ x) ∧ Below w.heap.size w wr
theorem mem_of_at {xs : List Int} {x : Int} {k : Nat} (hk : k < xs.length) (h : xs.getD k 0 = x) : decide (x ∈ xs) = true := by
  have e : xs.getD k 0 = xs[k] := by simp [List.getD, hk]
  rw [e] at h
  exact decide_eq_true (h ▸ List.getElem_mem hk)
theorem mem_of_not {xs : List Int} {x : Int} (h : ∀ j, j < xs.length → xs.getD j 0 ≠ x) : decide (x ∈ xs) = false := by
  refine decide_eq_false (fun hm => ?_)
  obtain ⟨j, hj, e⟩ := List.mem_iff_getElem.1 hm
  exact h j hj (by simp [List.getD, hj, e])

set_option maxHeartbeats 4000000 in
theorem ref28_in {A : Option Addr} {n : Nat} {xs : List Int} (c : Nat) (x : Int) {w : World} (h : IntsAt w A n xs) :
    Calls Try.prog 74 #[.slice A n c, .int .i64 x] w fun e w' => e = .returned (.bool (decide (x ∈ xs))) ∧ Below w.heap.size w w' := by
  obtain ⟨R, hR⟩ : ∃ R, decide (x ∈ xs) = R := ⟨_, rfl⟩
  rw [hR]
  have HR := Lib.hid hR
  have HX := Lib.hid h.1
  have HN := h.2.1
  have HC := Lib.hid h.2.2
  clear hR h
  go_enter Try.func74, Try.ntmps74
  go_wp2_with fail
  go_loopw [5] (fun i wr => InRel w xs x n i wr) (fun i _ => n - (intOf i).toNat)
  case atStart => exact ⟨0, Nat.zero_le _, rfl, fun j hj => absurd hj (by omega), Below.refl _ _⟩
  case round =>
    obtain ⟨k, hk, rfl, hnot, hbel⟩ := hrel
    have HNOT := Lib.hid hnot
    clear hnot
    have j1 : (0 : Int) ≤ (k : Int) := by omega
    by_cases hlt : (k : Int) < n
    · obtain ⟨b, off, rfl, hb, hcs⟩ := HC.out (by omega)
      have x0 := (hbel.cell (p := ⟨b, off + k, none⟩) hb).trans (hcs k (by omega))
      obtain ⟨y, hy⟩ : ∃ y, xs.getD k 0 = y := ⟨_, rfl⟩
      rw [hy] at x0
      have HY := Lib.hid hy
      clear hy hcs
      by_cases hq : y = x
      · have HE : Hid (true = R) := Lib.hid ((mem_of_at (by rw [HX.out]; omega) (HY.out.trans hq)).symm.trans HR.out)
        have q1 : (y == x) = true := by simpa using hq
        clear hq
        go_wp2_with fail
        go_ret
        exact ⟨ret_bool HE.out, (by repeat (first | exact Below.refl _ _ | assumption | refine bel_drew ?_ | refine bel_drewN ?_ _ | refine bel_alloc ?_ _ | refine bel_set ?_ (by first | (dsimp only; omega) | (simp; done) | (simp; omega)) _ | refine bel_trans ?_ (by assumption)))⟩
      · have HE : Hid (∀ j, j < k + 1 → xs.getD j 0 ≠ x) := Lib.hid (fun j hj => by
          rcases Nat.lt_or_ge j k with h1 | h1
          · exact HNOT.out j h1
          · obtain rfl : j = k := by omega
            rw [HY.out]; exact hq)
        have q1 : (y == x) = false := by simpa using hq
        clear hq
        go_wp2_with fail
        go_roundw
        case rel => exact ⟨k + 1, by omega, by go_num, HE.out, (by repeat (first | exact Below.refl _ _ | assumption | refine bel_drew ?_ | refine bel_drewN ?_ _ | refine bel_alloc ?_ _ | refine bel_set ?_ (by first | (dsimp only; omega) | (simp; done) | (simp; omega)) _ | refine bel_trans ?_ (by assumption)))⟩
        case measure => simp [intOf]; omega
    · have HE : Hid (false = R) := Lib.hid ((mem_of_not (fun j hj => HNOT.out j (by rw [HX.out] at hj; omega))).symm.trans HR.out)
      go_wp2_with fail
      go_ret
      exact ⟨ret_bool HE.out, (by repeat (first | exact Below.refl _ _ | assumption | refine bel_drew ?_ | refine bel_drewN ?_ _ | refine bel_alloc ?_ _ | refine bel_set ?_ (by first | (dsimp only; omega) | (simp; done) | (simp; omega)) _ | refine bel_trans ?_ (by assumption)))⟩

def lenV : Value → Nat
  | .slice _ n _ => n
  | _ => 0
def boolV : Value → Nat
  | .bool true => 1
  | _ => 0
def TakeRel (w : World) (l : List PO.Mem) (R : List Nat) (fr out mo : Value) (wr : World) : Prop :=
  ∃ (k : Nat) (f : Int) (done : List Nat) (b : Bool) (A : Option Addr) (c : Nat), fr = .int .i64 f ∧ mo = .bool b ∧ out = .slice A done.length c ∧ OwnI w.heap.size wr (.slice A done.length c) (PO.ints done) ∧ Below w.heap.size w wr ∧
    PO.Good l k f done ∧ (b = true → PO.taken l k f done = R) ∧ (b = false → done = R)
def ScanRel (w : World) (l : List PO.Mem) (f : Int) (done : List Nat) (fr out mo i : Value) (wr : World) : Prop :=
  ∃ (j : Nat) (A : Option Addr) (c : Nat), i = .int .i64 j ∧ j ≤ l.length ∧ Below w.heap.size w wr ∧
    ((mo = .bool false ∧ fr = .int .i64 f ∧ out = .slice A done.length c ∧ OwnI w.heap.size wr (.slice A done.length c) (PO.ints done) ∧ ∀ j', j' < j → j' ∈ done ∨ f < PO.need (l.getD j' PO.m0)) ∨
     (∃ i0, mo = .bool true ∧ PO.next f l done = some i0 ∧ fr = .int .i64 (f + (l.getD i0 PO.m0).2.2.1) ∧ out = .slice A (done.length + 1) c ∧ OwnI w.heap.size wr (.slice A (done.length + 1) c) (PO.ints (done ++ [i0]))))
theorem OwnI.slice {B : Nat} {w : World} {v : Value} {d : List Nat} (h : OwnI B w v (PO.ints d)) : ∃ A c, v = .slice A d.length c ∧ IntsAt w A d.length (PO.ints d) := by
  obtain ⟨A, c, e, i, _⟩ := h.ints
  rw [PO.ints_len] at e i
  exact ⟨A, c, e, i⟩

set_option maxRecDepth 100000 in
set_option maxHeartbeats 8000000 in
theorem ref28_Taken {A : Option Addr} {n : Nat} {l : List PO.Mem} (c : Nat) (free : Int) {w : World} (h : MemAt w A n l) (hn : n ≤ 1000) (hm : PO.may free l = true) :
    Calls Try.prog 65 #[.int .i64 free, .slice A n c] w fun e w' => ∃ v, e = .returned v ∧ OwnI w.heap.size w' v (PO.ints (PO.takenAll free l)) ∧ Below w.heap.size w w' := by
  obtain ⟨R, hR⟩ : ∃ R, PO.takenAll free l = R := ⟨_, rfl⟩
  rw [hR]
  have hst := PO.good_start hm
  have HA : Hid (l.all PO.ok = true) := Lib.hid (PO.may_iff.1 hm).2.2
  have HX := Lib.hid h.1
  have HB := Lib.hid (fun k (hk : k < n) => h.bd hk)
  have HC := Lib.hid h.2.2.2
  have HR := Lib.hid hR
  replace hst := Lib.hid hst
  clear hR h hm
  go_enter Try.func65, Try.ntmps65
  go_wp2_with fail
  go_loopw [0, 5, 6] (fun fr out mo wr => TakeRel w l R fr out mo wr) (fun _ out mo _ => 2 * (n - lenV out) + boolV mo)
  case atStart => exact ⟨l.length, free, [], true, none, 0, rfl, rfl, rfl, OwnI.nil _ _, (by repeat (first | exact Below.refl _ _ | assumption | refine bel_drew ?_ | refine bel_drewN ?_ _ | refine bel_alloc ?_ _ | refine bel_set ?_ (by first | (dsimp only; omega) | (simp; done) | (simp; omega)) _ | refine bel_trans ?_ (by assumption))), hst.out, fun _ => HR.out, fun h => by cases h⟩
  case round =>
    obtain ⟨k, f, done, b, A', c', rfl, rfl, rfl, ho, hbel, hg, hb1, hb0⟩ := hrel
    have HG := Lib.hid hg
    have HO := Lib.hid ho
    rcases b with _ | _
    · have HE := Lib.hid (hb0 rfl)
      clear hb1 hb0 hg ho
      go_wp2_with fail
      go_ret
      exact ⟨_, rfl, by rw [← HE.out]; exact HO.out, (by repeat (first | exact Below.refl _ _ | assumption | refine bel_drew ?_ | refine bel_drewN ?_ _ | refine bel_alloc ?_ _ | refine bel_set ?_ (by first | (dsimp only; omega) | (simp; done) | (simp; omega)) _ | refine bel_trans ?_ (by assumption)))⟩
    · have HE := Lib.hid (hb1 rfl)
      clear hb1 hb0 hg ho
      go_wp2_with fail
      go_loopw [0, 5, 6, 7] (fun fr out mo i wr => ScanRel w l f done fr out mo i wr) (fun _ _ _ i _ => n - (intOf i).toNat)
      case atStart => exact ⟨0, A', c', rfl, Nat.zero_le _, (by repeat (first | exact Below.refl _ _ | assumption | refine bel_drew ?_ | refine bel_drewN ?_ _ | refine bel_alloc ?_ _ | refine bel_set ?_ (by first | (dsimp only; omega) | (simp; done) | (simp; omega)) _ | refine bel_trans ?_ (by assumption))), .inl ⟨rfl, rfl, rfl, HO.out, fun j hj => absurd hj (by omega)⟩⟩
      case round =>
        obtain ⟨j, A2, c2, rfl, hj, hbel2, (⟨rfl, rfl, rfl, ho2, hnot⟩ | ⟨i0, rfl, hnx, rfl, rfl, ho2⟩)⟩ := hrel
        · have HNOT := Lib.hid hnot
          have HO2 := Lib.hid ho2
          rw [HX.out] at hj
          clear hnot ho2
          have j1 : (0 : Int) ≤ (j : Int) := by omega
          by_cases hlt : (j : Int) < n
          · obtain ⟨b, off, rfl, hb, hcs⟩ := HC.out (by omega)
            have HCS := Lib.hid (hcs j (by omega))
            have bd := HB.out j (by omega)
            clear hcs
            have hjl : j < l.length := by rw [HX.out]; omega
            obtain ⟨A2', c2', e2, i2⟩ := HO2.out.slice
            obtain ⟨rfl, rfl⟩ : A2 = A2' ∧ c2 = c2' := by simpa using e2
            have KI := ref28_in c2 (j : Int) i2
            clear e2 i2
            obtain ⟨m, hmm⟩ : ∃ m, l.getD j PO.m0 = m := ⟨_, rfl⟩
            rw [hmm] at HCS bd
            have hok := PO.ok_held (PO.ok_get HA.out hjl)
            rw [hmm] at hok
            have HM := Lib.hid hmm
            have KN := fun W => ref26_Need m.2.1 m.2.2.1 m.2.2.2 W bd.2.1 bd.2.2.1 bd.2.2.2
            clear hmm bd
            by_cases hin : j ∈ done
            · rw [decide_eq_true (PO.in_ints.2 hin)] at KI
              have HE2 : Hid (∀ j', j' < j + 1 → j' ∈ done ∨ f < PO.need (l.getD j' PO.m0)) := Lib.hid (fun j' h' => by
                rcases Nat.lt_or_ge j' j with h1 | h1
                · exact HNOT.out j' h1
                · obtain rfl : j' = j := by omega
                  exact .inl hin)
              replace KI := Lib.hid KI
              clear KN hin hok hjl
              go_wp2_with fail
              refine KI.out.mono ?_
              rintro e w3 ⟨rfl, h3⟩
              go_wp2_with fail
              go_roundw
              case rel => exact ⟨j + 1, A2, c2, by go_num, by rw [HX.out]; omega, (by repeat (first | exact Below.refl _ _ | assumption | refine bel_drew ?_ | refine bel_drewN ?_ _ | refine bel_alloc ?_ _ | refine bel_set ?_ (by first | (dsimp only; omega) | (simp; done) | (simp; omega)) _ | refine bel_trans ?_ (by assumption))), .inl ⟨rfl, rfl, rfl, HO2.out.keep h3, HE2.out⟩⟩
              case measure => simp [intOf]; omega
            · rw [decide_eq_false (fun h => hin (PO.in_ints.1 h))] at KI
              replace KI := Lib.hid KI
              by_cases hne : PO.need m ≤ f
              · have HNX : Hid (PO.next f l done = some j) := Lib.hid (PO.next_some.2 ⟨hjl, hin, by rw [HM.out]; exact hne, HNOT.out⟩)
                have hf0 : 0 ≤ f := HG.out.2.2.2.1
                have hdl : done.length ≤ n := by have := HG.out.2.2.1; have := HX.out; omega
                have hf1 : f ≤ 2000000000 := by have := HG.out.2.2.2.2; omega
                obtain ⟨k1, k2⟩ := hok
                have hne' : PA.need m.2.1 m.2.2.1 m.2.2.2 ≤ f := hne
                generalize PA.need m.2.1 m.2.2.1 m.2.2.2 = nd at *
                have g1 : decide (nd ≤ f) = true := decide_eq_true hne'
                have wf : IntKind.i64.wrap (f + m.2.2.1) = f + m.2.2.1 := IntWalk.i64_in _ (by omega)
                replace KN := Lib.hid KN
                have HDL := Lib.hid hdl
                clear hin hjl hne hne' hdl
                go_wp2_with fail
                refine KI.out.mono ?_
                rintro e w3 ⟨rfl, h3⟩
                have b3 := bel_trans hbel2 h3
                obtain ⟨x0, x1, x2, x3⟩ := HCS.out.keep b3 hb
                go_wp2_with fail
                refine (KN.out _).mono ?_
                rintro e w4 ⟨rfl, h4⟩
                have b4 := bel_trans b3 h4
                clear x0 x1 x2 x3
                obtain ⟨x0, x1, x2, x3⟩ := HCS.out.keep b4 hb
                go_wp2_with (at_builtin; refine app_listI rfl (.tmp 41) (.tmp 43) rfl w.heap.size _ (PO.ints done) rfl (HO2.out.keep (bel_alloc (bel_trans h3 h4) _)) (some ⟨w4.heap.size, 0, none⟩) 1 1 [(j : Int)] rfl (src_oneI (by simp [go_sem])) (by rw [PO.ints_len]; have := HDL.out; omega) (by have := b4.size; simp; omega) ?_; intro v9 w9 ho9 hb9; rw [← PO.ints_snoc] at ho9; obtain ⟨A9, c9, rfl, _⟩ := ho9.slice; rw [List.length_append] at ho9; replace ho9 := Lib.hid ho9; have b9 := bel_trans' (show Below w.heap.size w _ from (by repeat (first | exact Below.refl _ _ | assumption | refine bel_drew ?_ | refine bel_drewN ?_ _ | refine bel_alloc ?_ _ | refine bel_set ?_ (by first | (dsimp only; omega) | (simp; done) | (simp; omega)) _ | refine bel_trans ?_ (by assumption)))) hb9 (Nat.le_refl _))
                go_roundw
                case rel => exact ⟨j + 1, A9, c9, by go_num, by rw [HX.out]; omega, (by repeat (first | exact Below.refl _ _ | assumption | refine bel_drew ?_ | refine bel_drewN ?_ _ | refine bel_alloc ?_ _ | refine bel_set ?_ (by first | (dsimp only; omega) | (simp; done) | (simp; omega)) _ | refine bel_trans ?_ (by assumption))), .inr ⟨j, rfl, HNX.out, by rw [HM.out], by simp, ho9.out⟩⟩
                case measure => simp [intOf]; omega
              · have HE2 : Hid (∀ j', j' < j + 1 → j' ∈ done ∨ f < PO.need (l.getD j' PO.m0)) := Lib.hid (fun j' h' => by
                  rcases Nat.lt_or_ge j' j with h1 | h1
                  · exact HNOT.out j' h1
                  · obtain rfl : j' = j := by omega
                    exact .inr (by rw [HM.out]; omega))
                have hne' : ¬ PA.need m.2.1 m.2.2.1 m.2.2.2 ≤ f := hne
                generalize PA.need m.2.1 m.2.2.1 m.2.2.2 = nd at *
                have g1 : decide (nd ≤ f) = false := decide_eq_false hne'
                replace KN := Lib.hid KN
                clear hin hok hjl hne hne'
                go_wp2_with fail
                refine KI.out.mono ?_
                rintro e w3 ⟨rfl, h3⟩
                have b3 := bel_trans hbel2 h3
                obtain ⟨x0, x1, x2, x3⟩ := HCS.out.keep b3 hb
                go_wp2_with fail
                refine (KN.out _).mono ?_
                rintro e w4 ⟨rfl, h4⟩
                go_wp2_with fail
                go_roundw
                case rel => exact ⟨j + 1, A2, c2, by go_num, by rw [HX.out]; omega, (by repeat (first | exact Below.refl _ _ | assumption | refine bel_drew ?_ | refine bel_drewN ?_ _ | refine bel_alloc ?_ _ | refine bel_set ?_ (by first | (dsimp only; omega) | (simp; done) | (simp; omega)) _ | refine bel_trans ?_ (by assumption))), .inl ⟨rfl, rfl, rfl, (HO2.out.keep h3).keep h4, HE2.out⟩⟩
                case measure => simp [intOf]; omega
          · have HNX : PO.next f l done = none := PO.next_none (fun j' h' => HNOT.out j' (by rw [HX.out] at h'; omega))
            have HE2 : Hid (done = R) := Lib.hid ((PO.taken_none HNX).symm.trans HE.out)
            clear HNX
            go_wp2_with fail
            go_roundw
            case rel => exact ⟨k, f, done, false, A2, c2, rfl, rfl, rfl, HO2.out, (by repeat (first | exact Below.refl _ _ | assumption | refine bel_drew ?_ | refine bel_drewN ?_ _ | refine bel_alloc ?_ _ | refine bel_set ?_ (by first | (dsimp only; omega) | (simp; done) | (simp; omega)) _ | refine bel_trans ?_ (by assumption))), HG.out, (fun h => by cases h), fun _ => HE2.out⟩
            case measure => simp [lenV, boolV]
        · have HNX := Lib.hid hnx
          have HO2 := Lib.hid ho2
          have HE2 : Hid (∃ k', k = k' + 1 ∧ PO.Good l k' (f + (l.getD i0 PO.m0).2.2.1) (done ++ [i0]) ∧ PO.taken l k' (f + (l.getD i0 PO.m0).2.2.1) (done ++ [i0]) = R) := Lib.hid (by
            obtain ⟨k', rfl, hg⟩ := PO.good_next HA.out HG.out hnx
            exact ⟨k', rfl, hg, (PO.taken_some hnx).symm.trans HE.out⟩)
          have hdl : done.length < n := by
            obtain ⟨k', e, _⟩ := HE2.out
            have := HG.out.2.2.1
            have := HX.out
            omega
          rw [HX.out] at hj
          generalize f + (l.getD i0 PO.m0).2.2.1 = f2 at *
          clear hnx ho2
          have fin : TakeRel w l R (.int .i64 f2) (.slice A2 (done.length + 1) c2) (.bool true) wr := by
            obtain ⟨k', e, hg, ht⟩ := HE2.out
            exact ⟨k', f2, done ++ [i0], true, A2, c2, rfl, rfl, by simp, by simpa using HO2.out, hbel2, hg, (fun _ => ht), (fun h => by cases h)⟩
          replace fin := Lib.hid fin
          by_cases hlt : (j : Int) < n
          · go_wp2_with fail
            go_roundw
            case rel => exact fin.out
            case measure => simp [lenV, boolV]; omega
          · go_wp2_with fail
            go_roundw
            case rel => exact fin.out
            case measure => simp [lenV, boolV]; omega

theorem ref28_Order {A : Option Addr} {n : Nat} {l : List PO.Mem} (c : Nat) (free : Int) {w : World} (h : MemAt w A n l) (hn : n ≤ 1000) :
    Calls Try.prog 37 #[.int .i64 free, .slice A n c] w fun e w' => ∃ v, e = .returned (.tuple #[v, .bool (PO.order free l).2]) ∧ OwnI w.heap.size w' v (PO.ints (PO.order free l).1) ∧ Below w.heap.size w w' := by
  have K1 := ref28_May c free h
  have HX := h.1
  have e : PO.order free l = (if PO.may free l = false then ([], false) else if (PO.takenAll free l).length < l.length then ([], false) else (PO.takenAll free l, true)) := rfl
  have K2 : PO.may free l = true → ∀ W, Below w.heap.size w W → Calls Try.prog 65 #[.int .i64 free, .slice A n c] W fun e w' => ∃ v, e = .returned v ∧ OwnI W.heap.size w' v (PO.ints (PO.takenAll free l)) ∧ Below W.heap.size W w' := fun hm W hW => ref28_Taken c free (h.keep hW) hn hm
  generalize PO.order free l = R at *
  generalize PO.may free l = q at *
  generalize PO.takenAll free l = d at *
  clear h
  rcases q with _ | _
  · rw [if_pos rfl] at e
    subst e
    replace K1 := Lib.hid K1
    clear K2
    go_enter Try.func37, Try.ntmps37
    go_wp2_with fail
    refine K1.out.mono ?_
    rintro e w1 ⟨rfl, h1⟩
    go_wp2_with fail
    exact bodyPost_ret (v := .tuple #[.slice none 0 0, .bool false]) (by simp [results, Try.results37, go_sem]) rfl ⟨_, rfl, OwnI.nil _ _, (by repeat (first | exact Below.refl _ _ | assumption | refine bel_drew ?_ | refine bel_drewN ?_ _ | refine bel_alloc ?_ _ | refine bel_set ?_ (by first | (dsimp only; omega) | (simp; done) | (simp; omega)) _ | refine bel_trans ?_ (by assumption)))⟩
  · rw [if_neg (by simp), HX] at e
    replace K1 := Lib.hid K1
    have K3 := Lib.hid (K2 rfl)
    clear K2
    by_cases hd : d.length < n
    · rw [if_pos hd] at e
      subst e
      have g1 : (d.length : Int) < (n : Int) := by omega
      clear hd
      go_enter Try.func37, Try.ntmps37
      go_wp2_with fail
      refine K1.out.mono ?_
      rintro e w1 ⟨rfl, h1⟩
      go_wp2_with fail
      refine (K3.out _ h1).mono ?_
      rintro e w2 ⟨v2, rfl, ho2, h2⟩
      obtain ⟨A2, c2, rfl, _⟩ := ho2.slice
      clear ho2
      go_wp2_with fail
      exact bodyPost_ret (v := .tuple #[.slice none 0 0, .bool false]) (by simp [results, Try.results37, go_sem]) rfl ⟨_, rfl, OwnI.nil _ _, (by repeat (first | exact Below.refl _ _ | assumption | refine bel_drew ?_ | refine bel_drewN ?_ _ | refine bel_alloc ?_ _ | refine bel_set ?_ (by first | (dsimp only; omega) | (simp; done) | (simp; omega)) _ | refine bel_trans ?_ (by assumption)))⟩
    · rw [if_neg hd] at e
      subst e
      have g1 : ¬ (d.length : Int) < (n : Int) := by omega
      clear hd
      go_enter Try.func37, Try.ntmps37
      go_wp2_with fail
      refine K1.out.mono ?_
      rintro e w1 ⟨rfl, h1⟩
      go_wp2_with fail
      refine (K3.out _ h1).mono ?_
      rintro e w2 ⟨v2, rfl, ho2, h2⟩
      obtain ⟨A2, c2, rfl, _⟩ := ho2.slice
      have HO := Lib.hid (ho2.mono h1.size)
      clear ho2
      go_wp2_with fail
      exact bodyPost_ret (v := .tuple #[.slice A2 d.length c2, .bool true]) (by simp [results, Try.results37, go_sem]) rfl ⟨_, rfl, HO.out, (by repeat (first | exact Below.refl _ _ | assumption | refine bel_drew ?_ | refine bel_drewN ?_ _ | refine bel_alloc ?_ _ | refine bel_set ?_ (by first | (dsimp only; omega) | (simp; done) | (simp; omega)) _ | refine bel_trans ?_ (by assumption)))⟩
end Go.Proofs.Ythmjbfocpdiikaa
