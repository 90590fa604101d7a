/-
  Layer 8 (spans): Holes, and the reference's.
-/
import Derived.Test.YtfgfnfjeopjbgaaSpanQ
namespace Go.Proofs.Ytfgfnfjeopjbgaa
open Go.RowKit
set_option linter.unusedVariables false
set_option linter.unusedSimpArgs false
attribute [local go_sem] drewN_alloc drewN_setCell

/-- A slice of n spans that reads as l. -/
def GivesV1 (w : World) (n : Nat) (l : List PS.Sp) (e : Ending) (w' : World) : Prop :=
  ∃ A c, e = .returned (.slice A n c) ∧ SpansAt w' A n l ∧ CapOk A n c ∧ Below w.heap.size w w'
theorem holK_bd {l : List PS.Sp} {en : Int} (hr : PS.right l = true) (h2 : 0 ≤ en ∧ en ≤ 9223372036854775807) : ∀ k, ∀ s ∈ PS.holK l en k, SpBd s := by
  intro k
  induction k with
  | zero => intro s hs; simp [PS.holK] at hs
  | succ k ih =>
    intro s hs
    unfold PS.holK at hs
    rcases List.mem_append.1 hs with hs | hs
    · exact ih s hs
    · split at hs
      · rename_i hk
        have hw := (PS.whole_iff _).1 (PS.right_whole hr hk)
        have := PS.endOf_bd (PS.right_take hr k)
        exact piece_bd this ⟨by omega, by omega⟩ s hs
      · simp at hs
theorem holes_bd {l : List PS.Sp} {en : Int} (h2 : en ≤ 9223372036854775807) : ∀ s ∈ PS.holes l en, SpBd s := by
  intro s hs
  unfold PS.holes at hs
  split at hs
  · rename_i h
    rcases List.mem_append.1 hs with hs | hs
    · exact holK_bd h.1 ⟨by omega, h2⟩ _ s hs
    · exact piece_bd (PS.endOf_bd h.1) ⟨by omega, h2⟩ s hs
  · simp at hs

theorem spans_Holes_no {A : Option Addr} {n : Nat} {l : List PS.Sp} (c : Nat) (t : Int) {w : World} (h : SpansAt w A n l) (hr : PS.right l = false ∨ t < 1) :
    Calls Try.prog 68 #[.slice A n c, .int .i64 t] w (GivesV1 w 0 []) := by
  have K := spans_Right c h
  have HG : ∀ w', Below w.heap.size w w' → GivesV1 w 0 [] (.returned (.slice none 0 0)) w' := fun w' hb => ⟨none, 0, rfl, SpansAt.nil, ⟨Nat.le_refl _, by omega, fun _ => rfl, fun ad e => by simp at e⟩, hb⟩
  replace HG := Lib.hid HG
  clear h
  rcases hb : PS.right l with _ | _
  · rw [hb] at K
    replace K := Lib.hid K
    clear hr hb
    go_enter Try.func68, Try.ntmps68
    go_wp2_with fail
    refine K.out.mono ?_
    rintro e w5 ⟨rfl, h5⟩
    go_wp2_with fail
    go_ret
    exact HG.out _ (by repeat (first | exact Below.refl _ _ | assumption | refine bel_drew ?_ | refine bel_drewN ?_ _ | refine bel_alloc ?_ _ | refine bel_set ?_ (by first | (dsimp only; omega) | (simp; done) | (simp; omega)) _ | refine bel_trans ?_ (by assumption)))
  · rw [hb] at K
    replace K := Lib.hid K
    have hs : t < 1 := hr.resolve_left (by rw [hb]; simp)
    clear hr hb
    go_enter Try.func68, Try.ntmps68
    go_wp2_with fail
    refine K.out.mono ?_
    rintro e w5 ⟨rfl, h5⟩
    go_wp2_with fail
    go_ret
    exact HG.out _ (by repeat (first | exact Below.refl _ _ | assumption | refine bel_drew ?_ | refine bel_drewN ?_ _ | refine bel_alloc ?_ _ | refine bel_set ?_ (by first | (dsimp only; omega) | (simp; done) | (simp; omega)) _ | refine bel_trans ?_ (by assumption)))

theorem ref08_Holes_no {A : Option Addr} {n : Nat} {l : List PS.Sp} (c : Nat) (t : Int) {w : World} (h : SpansAt w A n l) (hr : PS.right l = false ∨ t < 1) :
    Calls Try.prog 69 #[.slice A n c, .int .i64 t] w (GivesV1 w 0 []) := by
  have K := ref08_Right c h
  have HG : ∀ w', Below w.heap.size w w' → GivesV1 w 0 [] (.returned (.slice none 0 0)) w' := fun w' hb => ⟨none, 0, rfl, SpansAt.nil, ⟨Nat.le_refl _, by omega, fun _ => rfl, fun ad e => by simp at e⟩, hb⟩
  replace HG := Lib.hid HG
  clear h
  rcases hb : PS.right l with _ | _
  · rw [hb] at K
    replace K := Lib.hid K
    clear hr hb
    go_enter Try.func69, Try.ntmps69
    go_wp2_with fail
    refine K.out.mono ?_
    rintro e w5 ⟨rfl, h5⟩
    go_wp2_with fail
    go_ret
    exact HG.out _ (by repeat (first | exact Below.refl _ _ | assumption | refine bel_drew ?_ | refine bel_drewN ?_ _ | refine bel_alloc ?_ _ | refine bel_set ?_ (by first | (dsimp only; omega) | (simp; done) | (simp; omega)) _ | refine bel_trans ?_ (by assumption)))
  · rw [hb] at K
    replace K := Lib.hid K
    have hs : t < 1 := hr.resolve_left (by rw [hb]; simp)
    clear hr hb
    go_enter Try.func69, Try.ntmps69
    go_wp2_with fail
    refine K.out.mono ?_
    rintro e w5 ⟨rfl, h5⟩
    go_wp2_with fail
    go_ret
    exact HG.out _ (by repeat (first | exact Below.refl _ _ | assumption | refine bel_drew ?_ | refine bel_drewN ?_ _ | refine bel_alloc ?_ _ | refine bel_set ?_ (by first | (dsimp only; omega) | (simp; done) | (simp; omega)) _ | refine bel_trans ?_ (by assumption)))

def HolRel (w : World) (l : List PS.Sp) (t : Int) (n : Nat) (out a i : Value) (wr : World) : Prop :=
  ∃ k : Nat, k ≤ n ∧ i = .int .i64 k ∧ a = .int .i64 (PS.endOf (l.take k)) ∧ OwnS w.heap.size wr out (PS.holK l t k) ∧ Below w.heap.size w wr

set_option maxRecDepth 100000 in
set_option maxHeartbeats 16000000 in
theorem spans_Holes_some (b off n c : Nat) (l : List PS.Sp) (t : Int) (w : World) (h : SpansAt w (some ⟨b, off, none⟩) n l) (hn : n ≤ 1000) (hr : PS.right l = true) (ht : 1 ≤ t ∧ t ≤ 9223372036854775807) :
    Calls Try.prog 68 #[.slice (some ⟨b, off, none⟩) n c, .int .i64 t] w (GivesV1 w (PS.holes l t).length (PS.holes l t)) := by
  have K := spans_Right c h
  rw [hr] at K
  have HLn := h.1
  have HFIN : Hid (∀ v w' L, L = PS.holes l t → OwnS w.heap.size w' v L → Below w.heap.size w w' → GivesV1 w (PS.holes l t).length (PS.holes l t) (.returned v) w') := Lib.hid (fun v w' L e ho hb => by
    subst e
    obtain ⟨A, c', rfl, hs, hc⟩ := ho.val (holes_bd ht.2)
    exact ⟨A, c', rfl, hs, hc, hb⟩)
  have HH : Hid (PS.holes l t = PS.holK l t l.length ++ PS.piece (PS.endOf l) t) := Lib.hid (by unfold PS.holes; rw [if_pos ⟨hr, ht.1⟩])
  have HCL : Hid (∀ k, k ≤ n → (PS.holK l t k).length ≤ 1001) := Lib.hid (fun k hk => by have := PS.hol_len l t k; omega)
  obtain ⟨PO, hPO⟩ : ∃ PO, GivesV1 w (PS.holes l t).length (PS.holes l t) = PO := ⟨_, rfl⟩
  rw [hPO] at HFIN ⊢
  have H' := Lib.hid h
  replace K := Lib.hid K
  replace HLn := Lib.hid HLn
  replace hr := Lib.hid hr
  obtain ⟨t1, t2⟩ := ht
  clear h hPO
  go_enter Try.func68, Try.ntmps68
  go_wp2_with fail
  refine K.out.mono ?_
  rintro e w1 ⟨rfl, h1⟩
  go_wp2_with fail
  go_loopw [5, 6, 20] (fun out a i wr => HolRel w l t n out a i wr) (fun _ _ i _ => n - (intOf i).toNat)
  case atStart => exact ⟨0, Nat.zero_le _, rfl, rfl, OwnS.nil _ _, (by repeat (first | exact Below.refl _ _ | assumption | refine bel_drew ?_ | refine bel_drewN ?_ _ | refine bel_alloc ?_ _ | refine bel_set ?_ (by first | (dsimp only; omega) | (simp; done) | (simp; omega)) _ | refine bel_trans ?_ (by assumption)))⟩
  case round =>
    obtain ⟨k, hk, rfl, rfl, hown, hbel⟩ := hrel
    have j1 : (0 : Int) ≤ (k : Int) := by omega
    have HO : Hid (∀ W, Below wr.heap.size wr W → OwnS w.heap.size W _ (PS.holK l t k)) := Lib.hid (fun W hW => hown.keep hW)
    have HBS : Hid (∀ W, Below wr.heap.size wr W → w.heap.size ≤ W.heap.size) := Lib.hid (fun W hW => Nat.le_trans hbel.size hW.size)
    have HNE : Hid (∀ g, wr.heap.size ≤ g → some g ≠ Value.ownBlock _) := Lib.hid (fun g hg => own_ne hown hg)
    have HLEN : Hid ((PS.holK l t k).length + 1 ≤ 1048576) := Lib.hid (by have := HCL.out k hk; omega)
    have eb := PS.endOf_bd (PS.right_take hr.out k)
    replace hown := Lib.hid hown
    by_cases hlt : (k : Int) < n
    · have hkl : k < l.length := by have := HLn.out; omega
      obtain ⟨x, m, hs, x0, x1, bx1, bm1⟩ := H'.out.row hbel (k := k) (by omega)
      have hw := (PS.whole_iff _).1 (PS.right_whole hr.out hkl)
      have st := PS.hol_step (end_ := t) hkl
      have se := PS.endOf_step hkl
      have sr := PS.right_step hkl
      rw [PS.right_take hr.out, PS.right_take hr.out] at sr
      simp only [Bool.true_and, Bool.true_eq, Bool.and_eq_true, decide_eq_true_eq] at sr
      rw [hs hkl] at hw st se sr
      unfold PS.fin at se
      dsimp only at hw st se sr
      obtain ⟨g1, g2, g3⟩ := hw
      have sr2 := sr.2
      clear hs sr
      generalize PS.endOf (l.take k) = E at *
      obtain ⟨e1, e2⟩ := eb
      obtain ⟨b1, hb1⟩ : ∃ b1, min t x = b1 := ⟨_, rfl⟩
      rw [hb1] at st
      have rb1 : 0 ≤ b1 ∧ b1 ≤ 9223372036854775807 := by omega
      obtain ⟨rb2, rb3⟩ := rb1
      have K1 := fun W => spans_part E (x - E) 0 t W ⟨e1, e2⟩ ⟨by omega, by omega⟩ (by omega) ⟨by omega, t2⟩
      rw [show max 0 E = E by omega, show min t (E + (x - E)) = b1 by rw [← hb1]; congr 1; omega] at K1
      have SE := Lib.hid se
      by_cases hf1 : E < b1
      · rw [piece_yes hf1] at st
        have ST := Lib.hid st
        rw [decide_eq_true hf1] at K1
        replace K1 := Lib.hid K1
        clear st se hf1 hb1
        go_wp2_with fail
        refine (K1.out _).mono ?_
        rintro e w5 ⟨rfl, h5⟩
        have s0 := cell_after (a := ⟨wr.heap.size, 0, none⟩) (v := .int .i64 x) h5 (by simp) (by simp [go_sem])
        have s1 := cell_after (a := ⟨wr.heap.size, 1, none⟩) (v := .int .i64 m) h5 (by simp) (by simp [go_sem])
        have zs : wr.heap.size < w5.heap.size := by have := h5.size; simp at this; omega
        go_wp2_with (at_builtin; refine app_list2 rfl (.tmp 36) (.tmp 38) rfl w.heap.size _ (PS.holK l t k) rfl (HO.out _ (by repeat (first | exact Below.refl _ _ | assumption | refine bel_drew ?_ | refine bel_drewN ?_ _ | refine bel_alloc ?_ _ | refine bel_set ?_ (by first | (dsimp only; omega) | (simp; done) | (simp; omega)) _ | refine bel_trans ?_ (by assumption)))) (some ⟨_, 0, none⟩) 1 1 [(E, b1 - E)] rfl (src_one (by simp [go_sem]) (by simp [go_sem])) HLEN.out (HBS.out _ (by repeat (first | exact Below.refl _ _ | assumption | refine bel_drew ?_ | refine bel_drewN ?_ _ | refine bel_alloc ?_ _ | refine bel_set ?_ (by first | (dsimp only; omega) | (simp; done) | (simp; omega)) _ | refine bel_trans ?_ (by assumption)))) ?_; intro v1 x1 ho1 hb1 hg1; have r0 := World.grownBy.cell hg1 (a := ⟨wr.heap.size, 0, none⟩) (v := .int .i64 x) (cell_alloc _ (by first | (simp; done) | (simp; omega)) (cell_alloc _ zs s0)) (HNE.out _ (Nat.le_refl _)); have r1 := World.grownBy.cell hg1 (a := ⟨wr.heap.size, 1, none⟩) (v := .int .i64 m) (cell_alloc _ (by first | (simp; done) | (simp; omega)) (cell_alloc _ zs s1)) (HNE.out _ (Nat.le_refl _)); have hb1' := bel_trans' (show Below w.heap.size w _ from (by repeat (first | exact Below.refl _ _ | assumption | refine bel_drew ?_ | refine bel_drewN ?_ _ | refine bel_alloc ?_ _ | refine bel_set ?_ (by first | (dsimp only; omega) | (simp; done) | (simp; omega)) _ | refine bel_trans ?_ (by assumption)))) hb1 (Nat.le_refl _); replace ho1 := Lib.hid ho1; clear hg1 hb1 s0 s1)
        go_roundw
        case rel => exact ⟨k + 1, by omega, by go_num, by rw [SE.out], by rw [ST.out]; exact ho1.out, hb1'⟩
        case measure => simp [intOf]; omega
      · rw [piece_no hf1] at st
        have ST := Lib.hid st
        rw [decide_eq_false hf1] at K1
        replace K1 := Lib.hid K1
        clear st se hf1 hb1
        go_wp2_with fail
        refine (K1.out _).mono ?_
        rintro e w5 ⟨rfl, h5⟩
        have s0 := cell_after (a := ⟨wr.heap.size, 0, none⟩) (v := .int .i64 x) h5 (by simp) (by simp [go_sem])
        have s1 := cell_after (a := ⟨wr.heap.size, 1, none⟩) (v := .int .i64 m) h5 (by simp) (by simp [go_sem])
        have zs : wr.heap.size < w5.heap.size := by have := h5.size; simp at this; omega
        go_wp2_with fail
        go_roundw
        case rel => exact ⟨k + 1, by omega, by go_num, by rw [SE.out], by rw [ST.out]; exact (by rw [List.append_nil]; exact HO.out _ (by repeat (first | exact Below.refl _ _ | assumption | refine bel_drew ?_ | refine bel_drewN ?_ _ | refine bel_alloc ?_ _ | refine bel_set ?_ (by first | (dsimp only; omega) | (simp; done) | (simp; omega)) _ | refine bel_trans ?_ (by assumption)))), (by repeat (first | exact Below.refl _ _ | assumption | refine bel_drew ?_ | refine bel_drewN ?_ _ | refine bel_alloc ?_ _ | refine bel_set ?_ (by first | (dsimp only; omega) | (simp; done) | (simp; omega)) _ | refine bel_trans ?_ (by assumption)))⟩
        case measure => simp [intOf]; omega
    · have htk : l.take k = l := List.take_of_length_le (by have := HLn.out; omega)
      have hkl : l.length = k := by have := HLn.out; omega
      have HH' := HH.out
      rw [hkl] at HH'
      rw [htk] at eb ⊢
      generalize PS.endOf l = E at *
      obtain ⟨e1, e2⟩ := eb
      replace hlt : (n : Int) ≤ k := by omega
      by_cases hf : E < t
      · rw [piece_yes hf] at HH'
        replace HH' := Lib.hid HH'
        clear htk hkl
        go_wp2_with (at_builtin; refine app_list2 rfl (.tmp 49) (.tmp 55) rfl w.heap.size _ (PS.holK l t k) rfl (HO.out _ (by repeat (first | exact Below.refl _ _ | assumption | refine bel_drew ?_ | refine bel_drewN ?_ _ | refine bel_alloc ?_ _ | refine bel_set ?_ (by first | (dsimp only; omega) | (simp; done) | (simp; omega)) _ | refine bel_trans ?_ (by assumption)))) (some ⟨_, 0, none⟩) 1 1 [(E, t - E)] rfl (src_one (by simp [go_sem]) (by simp [go_sem])) HLEN.out (HBS.out _ (by repeat (first | exact Below.refl _ _ | assumption | refine bel_drew ?_ | refine bel_drewN ?_ _ | refine bel_alloc ?_ _ | refine bel_set ?_ (by first | (dsimp only; omega) | (simp; done) | (simp; omega)) _ | refine bel_trans ?_ (by assumption)))) ?_; intro v1 x1 ho1 hb1 hg1; have hb1' := bel_trans' (show Below w.heap.size w _ from (by repeat (first | exact Below.refl _ _ | assumption | refine bel_drew ?_ | refine bel_drewN ?_ _ | refine bel_alloc ?_ _ | refine bel_set ?_ (by first | (dsimp only; omega) | (simp; done) | (simp; omega)) _ | refine bel_trans ?_ (by assumption)))) hb1 (Nat.le_refl _); have hfin := Lib.hid (HFIN.out _ _ _ HH'.out.symm ho1 hb1'); clear hg1 hb1 ho1)
        exact hfin.out
      · rw [piece_no hf, List.append_nil] at HH'
        have hfin := Lib.hid (HFIN.out _ _ _ HH'.symm hown.out hbel)
        replace hf : t ≤ E := by omega
        clear htk hkl HH' HO HNE HLEN hown
        go_wp2_with fail
        exact hfin.out

def HolRel' (w : World) (l : List PS.Sp) (t : Int) (n : Nat) (out a i : Value) (wr : World) : Prop :=
  ∃ k : Nat, k ≤ n + 1 ∧ i = .int .i64 k ∧ a = .int .i64 (PS.endOf (l.take k)) ∧ OwnS w.heap.size wr out (if k ≤ n then PS.holK l t k else PS.holes l t) ∧ Below w.heap.size w wr

set_option maxRecDepth 100000 in
set_option maxHeartbeats 16000000 in
theorem ref08_Holes_some (b off n c : Nat) (l : List PS.Sp) (t : Int) (w : World) (h : SpansAt w (some ⟨b, off, none⟩) n l) (hn : n ≤ 1000) (hr : PS.right l = true) (ht : 1 ≤ t ∧ t ≤ 9223372036854775807) :
    Calls Try.prog 69 #[.slice (some ⟨b, off, none⟩) n c, .int .i64 t] w (GivesV1 w (PS.holes l t).length (PS.holes l t)) := by
  have K := ref08_Right c h
  rw [hr] at K
  have HLn := h.1
  have HFIN : Hid (∀ v w' L, L = PS.holes l t → OwnS w.heap.size w' v L → Below w.heap.size w w' → GivesV1 w (PS.holes l t).length (PS.holes l t) (.returned v) w') := Lib.hid (fun v w' L e ho hb => by
    subst e
    obtain ⟨A, c', rfl, hs, hc⟩ := ho.val (holes_bd ht.2)
    exact ⟨A, c', rfl, hs, hc, hb⟩)
  have HH : Hid (PS.holes l t = PS.holK l t l.length ++ PS.piece (PS.endOf l) t) := Lib.hid (by unfold PS.holes; rw [if_pos ⟨hr, ht.1⟩])
  have HCL : Hid (∀ k, k ≤ n → (PS.holK l t k).length ≤ 1001) := Lib.hid (fun k hk => by have := PS.hol_len l t k; omega)
  obtain ⟨PO, hPO⟩ : ∃ PO, GivesV1 w (PS.holes l t).length (PS.holes l t) = PO := ⟨_, rfl⟩
  rw [hPO] at HFIN ⊢
  have H' := Lib.hid h
  replace K := Lib.hid K
  replace HLn := Lib.hid HLn
  replace hr := Lib.hid hr
  obtain ⟨t1, t2⟩ := ht
  clear h hPO
  go_enter Try.func69, Try.ntmps69
  go_wp2_with fail
  refine K.out.mono ?_
  rintro e w1 ⟨rfl, h1⟩
  go_wp2_with fail
  go_loopw [5, 6, 7] (fun out a i wr => HolRel' w l t n out a i wr) (fun _ _ i _ => n + 1 - (intOf i).toNat)
  case atStart => exact ⟨0, Nat.zero_le _, rfl, rfl, by rw [if_pos (Nat.zero_le _)]; exact OwnS.nil _ _, (by repeat (first | exact Below.refl _ _ | assumption | refine bel_drew ?_ | refine bel_drewN ?_ _ | refine bel_alloc ?_ _ | refine bel_set ?_ (by first | (dsimp only; omega) | (simp; done) | (simp; omega)) _ | refine bel_trans ?_ (by assumption)))⟩
  case round =>
    obtain ⟨k, hk, rfl, rfl, hown, hbel⟩ := hrel
    have j1 : (0 : Int) ≤ (k : Int) := by omega
    have HBS : Hid (∀ W, Below wr.heap.size wr W → w.heap.size ≤ W.heap.size) := Lib.hid (fun W hW => Nat.le_trans hbel.size hW.size)
    have eb := PS.endOf_bd (PS.right_take hr.out k)
    by_cases hkn : k ≤ n
    · rw [if_pos hkn] at hown
      have HO : Hid (∀ W, Below wr.heap.size wr W → OwnS w.heap.size W _ (PS.holK l t k)) := Lib.hid (fun W hW => hown.keep hW)
      have HLEN : Hid ((PS.holK l t k).length + 1 ≤ 1048576) := Lib.hid (by have := HCL.out k hkn; omega)
      have jn : (k : Int) ≤ n := by omega
      replace hown := Lib.hid hown
      by_cases hlt : (k : Int) < n
      · have hkl : k < l.length := by have := HLn.out; omega
        obtain ⟨x, m, hs, x0, x1, bx1, bm1⟩ := H'.out.row hbel (k := k) (by omega)
        have RI : Hid (∀ w', Below w.heap.size w w' → w'.cell? ⟨b, off + k * 2, none⟩ = some (.int .i64 x) ∧ w'.cell? ⟨b, off + k * 2 + 1, none⟩ = some (.int .i64 m)) := Lib.hid (fun w' hb' => by
          obtain ⟨y', q', hs', z0, z1, -, -⟩ := H'.out.row hb' (k := k) (by omega)
          have e := (hs' hkl).symm.trans (hs hkl)
          obtain ⟨rfl, rfl⟩ := Prod.mk.inj e
          exact ⟨z0, z1⟩)
        have hw := (PS.whole_iff _).1 (PS.right_whole hr.out hkl)
        have st := PS.hol_step (end_ := t) hkl
        have se := PS.endOf_step hkl
        rw [hs hkl] at hw st se
        unfold PS.fin at se
        dsimp only at hw st se
        obtain ⟨g1, g2, g3⟩ := hw
        clear hs
        generalize PS.endOf (l.take k) = E at *
        obtain ⟨e1, e2⟩ := eb
        obtain ⟨b1, hb1⟩ : ∃ b1, min t x = b1 := ⟨_, rfl⟩
        rw [hb1] at st
        have im : (if x < t then x else t) = b1 := by rw [← hb1, Int.min_def]; split <;> split <;> omega
        have rb1 : 0 ≤ b1 ∧ b1 ≤ 9223372036854775807 := by omega
        obtain ⟨rb2, rb3⟩ := rb1
        have SE := Lib.hid se
        have hk1 : k + 1 ≤ n := by omega
        have HK1 := Lib.hid hk1
        clear hk1
        by_cases hf1 : E < b1
        · rw [piece_yes hf1] at st
          have ST := Lib.hid st
          clear st se hb1
          go_wp2_with (at_builtin; refine app_list2 rfl (.tmp 37) (.tmp 43) rfl w.heap.size _ (PS.holK l t k) rfl (HO.out _ (by repeat (first | exact Below.refl _ _ | assumption | refine bel_drew ?_ | refine bel_drewN ?_ _ | refine bel_alloc ?_ _ | refine bel_set ?_ (by first | (dsimp only; omega) | (simp; done) | (simp; omega)) _ | refine bel_trans ?_ (by assumption)))) (some ⟨_, 0, none⟩) 1 1 [(E, b1 - E)] rfl (src_one (by simp [go_sem]) (by simp [go_sem])) HLEN.out (HBS.out _ (by repeat (first | exact Below.refl _ _ | assumption | refine bel_drew ?_ | refine bel_drewN ?_ _ | refine bel_alloc ?_ _ | refine bel_set ?_ (by first | (dsimp only; omega) | (simp; done) | (simp; omega)) _ | refine bel_trans ?_ (by assumption)))) ?_; intro v1 x1 ho1 hb1 hg1; have hb1' := bel_trans' (show Below w.heap.size w _ from (by repeat (first | exact Below.refl _ _ | assumption | refine bel_drew ?_ | refine bel_drewN ?_ _ | refine bel_alloc ?_ _ | refine bel_set ?_ (by first | (dsimp only; omega) | (simp; done) | (simp; omega)) _ | refine bel_trans ?_ (by assumption)))) hb1 (Nat.le_refl _); have r0 := (RI.out _ hb1').1; have r1 := (RI.out _ hb1').2; replace ho1 := Lib.hid ho1; clear hg1 hb1)
          go_quiet (fail)
          go_wp2_with fail
          go_roundw
          case rel => exact ⟨k + 1, by omega, by go_num, by rw [SE.out], by rw [if_pos HK1.out, ST.out]; exact ho1.out.keep (by repeat (first | exact Below.refl _ _ | assumption | refine bel_drew ?_ | refine bel_drewN ?_ _ | refine bel_alloc ?_ _ | refine bel_set ?_ (by first | (dsimp only; omega) | (simp; done) | (simp; omega)) _ | refine bel_trans ?_ (by assumption))), (by repeat (first | exact Below.refl _ _ | assumption | refine bel_drew ?_ | refine bel_drewN ?_ _ | refine bel_alloc ?_ _ | refine bel_set ?_ (by first | (dsimp only; omega) | (simp; done) | (simp; omega)) _ | refine bel_trans ?_ (by assumption)))⟩
          case measure => simp [intOf]; omega
        · rw [piece_no hf1] at st
          have ST := Lib.hid st
          replace hf1 : b1 ≤ E := by omega
          clear st se hb1
          go_wp2_with fail
          go_quiet (fail)
          go_wp2_with fail
          go_roundw
          case rel => exact ⟨k + 1, by omega, by go_num, by rw [SE.out], by rw [if_pos HK1.out, ST.out]; exact (by rw [List.append_nil]; exact HO.out _ (by repeat (first | exact Below.refl _ _ | assumption | refine bel_drew ?_ | refine bel_drewN ?_ _ | refine bel_alloc ?_ _ | refine bel_set ?_ (by first | (dsimp only; omega) | (simp; done) | (simp; omega)) _ | refine bel_trans ?_ (by assumption)))), (by repeat (first | exact Below.refl _ _ | assumption | refine bel_drew ?_ | refine bel_drewN ?_ _ | refine bel_alloc ?_ _ | refine bel_set ?_ (by first | (dsimp only; omega) | (simp; done) | (simp; omega)) _ | refine bel_trans ?_ (by assumption)))⟩
          case measure => simp [intOf]; omega
      · have htk : l.take k = l := List.take_of_length_le (by have := HLn.out; omega)
        have htk1 : l.take (k + 1) = l := List.take_of_length_le (by have := HLn.out; omega)
        have hkl : l.length = k := by have := HLn.out; omega
        have HH' := HH.out
        rw [hkl] at HH'
        have HE1 := Lib.hid htk1
        rw [htk] at eb ⊢
        replace hlt : (n : Int) ≤ k := by omega
        have hkn1 : ¬ k + 1 ≤ n := by omega
        have HKN := Lib.hid hkn1
        obtain ⟨E, hE⟩ : ∃ E, PS.endOf l = E := ⟨_, rfl⟩
        rw [hE] at HH' eb ⊢
        have HEE := Lib.hid hE
        obtain ⟨e1, e2⟩ := eb
        by_cases hf : E < t
        · rw [piece_yes hf] at HH'
          replace HH' := Lib.hid HH'
          clear htk hkl htk1 hE hkn1
          go_wp2_with (at_builtin; refine app_list2 rfl (.tmp 37) (.tmp 43) rfl w.heap.size _ (PS.holK l t k) rfl (HO.out _ (by repeat (first | exact Below.refl _ _ | assumption | refine bel_drew ?_ | refine bel_drewN ?_ _ | refine bel_alloc ?_ _ | refine bel_set ?_ (by first | (dsimp only; omega) | (simp; done) | (simp; omega)) _ | refine bel_trans ?_ (by assumption)))) (some ⟨_, 0, none⟩) 1 1 [(E, t - E)] rfl (src_one (by simp [go_sem]) (by simp [go_sem])) HLEN.out (HBS.out _ (by repeat (first | exact Below.refl _ _ | assumption | refine bel_drew ?_ | refine bel_drewN ?_ _ | refine bel_alloc ?_ _ | refine bel_set ?_ (by first | (dsimp only; omega) | (simp; done) | (simp; omega)) _ | refine bel_trans ?_ (by assumption)))) ?_; intro v1 x1 ho1 hb1 hg1; have hb1' := bel_trans' (show Below w.heap.size w _ from (by repeat (first | exact Below.refl _ _ | assumption | refine bel_drew ?_ | refine bel_drewN ?_ _ | refine bel_alloc ?_ _ | refine bel_set ?_ (by first | (dsimp only; omega) | (simp; done) | (simp; omega)) _ | refine bel_trans ?_ (by assumption)))) hb1 (Nat.le_refl _); replace ho1 := Lib.hid ho1; clear hg1 hb1)
          go_roundw
          case rel => exact ⟨k + 1, by omega, by go_num, by rw [HE1.out, HEE.out], by rw [if_neg HKN.out, HH'.out]; exact ho1.out, hb1'⟩
          case measure => simp [intOf]; omega
        · rw [piece_no hf, List.append_nil] at HH'
          replace HH' := Lib.hid HH'
          replace hf : t ≤ E := by omega
          clear htk hkl htk1 hE hkn1
          go_wp2_with fail
          go_roundw
          case rel => exact ⟨k + 1, by omega, by go_num, by rw [HE1.out, HEE.out], by rw [if_neg HKN.out, HH'.out]; exact hown.out, (by repeat (first | exact Below.refl _ _ | assumption | refine bel_drew ?_ | refine bel_drewN ?_ _ | refine bel_alloc ?_ _ | refine bel_set ?_ (by first | (dsimp only; omega) | (simp; done) | (simp; omega)) _ | refine bel_trans ?_ (by assumption)))⟩
          case measure => simp [intOf]; omega
    · rw [if_neg hkn] at hown
      have hfin := Lib.hid (HFIN.out _ _ _ rfl hown hbel)
      have jn : (n : Int) < k := by omega
      clear hown
      go_wp2_with fail
      exact hfin.out

theorem spans_Holes_empty (A : Option Addr) (c : Nat) (t : Int) (w : World) (ht : 1 ≤ t ∧ t ≤ 9223372036854775807) :
    Calls Try.prog 68 #[.slice A 0 c, .int .i64 t] w (GivesV1 w 1 [(0, t)]) := by
  have K := spans_Right c (SpansAt.nil (A := A) (w := w))
  rw [show PS.right [] = true from rfl] at K
  have HFIN : Hid (∀ v w', OwnS w.heap.size w' v ([] ++ [(0, t)]) → Below w.heap.size w w' → GivesV1 w 1 [(0, t)] (.returned v) w') := Lib.hid (fun v w' ho hb => by
    obtain ⟨A, c', rfl, hs, hc⟩ := OwnS.val (l := [(0, t)]) ho (fun s hs => by obtain rfl := List.mem_singleton.1 hs; exact ⟨⟨by simp, by simp⟩, by dsimp only; omega, by dsimp only; omega⟩)
    exact ⟨A, c', rfl, hs, hc, hb⟩)
  obtain ⟨t1, t2⟩ := ht
  replace K := Lib.hid K
  go_enter Try.func68, Try.ntmps68
  go_wp2_with fail
  refine K.out.mono ?_
  rintro e w1 ⟨rfl, h1⟩
  have hz1 := h1.size
  go_wp2_with fail
  refine wp_loop_rounds 1 ?_
  rw [rounds_succ]
  go_wp2_with (at_builtin; refine app_list2 rfl (.tmp 49) (.tmp 55) rfl w.heap.size _ [] rfl (OwnS.nil _ _) (some ⟨_, 0, none⟩) 1 1 [(0, t)] rfl (src_one (by simp [go_sem]) (by simp [go_sem])) (by simp) (Nat.le_trans hz1 (by first | (simp; done) | (simp; omega))) ?_; intro v1 x1 ho1 hb1 hg1; have hb1' := bel_trans' (show Below w.heap.size w _ from (by repeat (first | exact Below.refl _ _ | assumption | refine bel_drew ?_ | refine bel_drewN ?_ _ | refine bel_alloc ?_ _ | refine bel_set ?_ (by first | (dsimp only; omega) | (simp; done) | (simp; omega)) _ | refine bel_trans ?_ (by assumption)))) hb1 (Nat.le_refl _); have hfin := Lib.hid (HFIN.out _ _ ho1 hb1'); clear hg1 hb1 ho1)
  go_ret
  exact hfin.out

theorem spans_Holes {A : Option Addr} {n : Nat} {l : List PS.Sp} (c : Nat) (t : Int) {w : World} (h : SpansAt w A n l) (hn : n ≤ 1000) (ht : t ≤ 9223372036854775807) :
    Calls Try.prog 68 #[.slice A n c, .int .i64 t] w (GivesV1 w (PS.holes l t).length (PS.holes l t)) := by
  by_cases hh : PS.right l = true ∧ 1 ≤ t
  · by_cases h0 : 0 < n
    · obtain ⟨b, off, rfl, -, -⟩ := h.2.2.2 h0
      exact spans_Holes_some b off n c l t w h hn hh.1 ⟨hh.2, ht⟩
    · obtain rfl : n = 0 := by omega
      obtain rfl := List.eq_nil_of_length_eq_zero h.1
      have e : PS.holes [] t = [(0, t)] := by unfold PS.holes; rw [if_pos hh]; simp [PS.holK, PS.piece]; omega
      rw [e]
      exact spans_Holes_empty A c t w ⟨hh.2, ht⟩
  · have e : PS.holes l t = [] := by unfold PS.holes; rw [if_neg hh]
    rw [e]
    refine spans_Holes_no c t h ?_
    rcases hb : PS.right l with _ | _
    · exact .inl rfl
    · exact .inr (by have : ¬ 1 ≤ t := fun x => hh ⟨hb, x⟩; omega)

theorem ref08_Holes_empty (A : Option Addr) (c : Nat) (t : Int) (w : World) (ht : 1 ≤ t ∧ t ≤ 9223372036854775807) :
    Calls Try.prog 69 #[.slice A 0 c, .int .i64 t] w (GivesV1 w 1 [(0, t)]) := by
  have K := ref08_Right c (SpansAt.nil (A := A) (w := w))
  rw [show PS.right [] = true from rfl] at K
  have HFIN : Hid (∀ v w', OwnS w.heap.size w' v ([] ++ [(0, t)]) → Below w.heap.size w w' → GivesV1 w 1 [(0, t)] (.returned v) w') := Lib.hid (fun v w' ho hb => by
    obtain ⟨A, c', rfl, hs, hc⟩ := OwnS.val (l := [(0, t)]) ho (fun s hs => by obtain rfl := List.mem_singleton.1 hs; exact ⟨⟨by simp, by simp⟩, by dsimp only; omega, by dsimp only; omega⟩)
    exact ⟨A, c', rfl, hs, hc, hb⟩)
  obtain ⟨t1, t2⟩ := ht
  replace K := Lib.hid K
  go_enter Try.func69, Try.ntmps69
  go_wp2_with fail
  refine K.out.mono ?_
  rintro e w1 ⟨rfl, h1⟩
  have hz1 := h1.size
  go_wp2_with fail
  refine wp_loop_rounds 2 ?_
  rw [rounds_succ]
  go_wp2_with (at_builtin; refine app_list2 rfl (.tmp 37) (.tmp 43) rfl w.heap.size _ [] rfl (OwnS.nil _ _) (some ⟨_, 0, none⟩) 1 1 [(0, t)] rfl (src_one (by simp [go_sem]) (by simp [go_sem])) (by simp) (Nat.le_trans hz1 (by first | (simp; done) | (simp; omega))) ?_; intro v1 x1 ho1 hb1 hg1; have hb1' := bel_trans' (show Below w.heap.size w _ from (by repeat (first | exact Below.refl _ _ | assumption | refine bel_drew ?_ | refine bel_drewN ?_ _ | refine bel_alloc ?_ _ | refine bel_set ?_ (by first | (dsimp only; omega) | (simp; done) | (simp; omega)) _ | refine bel_trans ?_ (by assumption)))) hb1 (Nat.le_refl _); have hfin := Lib.hid (HFIN.out _ _ ho1 hb1'); clear hg1 hb1 ho1)
  rw [rounds_succ]
  go_wp2_with fail
  go_ret
  exact hfin.out

theorem ref08_Holes {A : Option Addr} {n : Nat} {l : List PS.Sp} (c : Nat) (t : Int) {w : World} (h : SpansAt w A n l) (hn : n ≤ 1000) (ht : t ≤ 9223372036854775807) :
    Calls Try.prog 69 #[.slice A n c, .int .i64 t] w (GivesV1 w (PS.holes l t).length (PS.holes l t)) := by
  by_cases hh : PS.right l = true ∧ 1 ≤ t
  · by_cases h0 : 0 < n
    · obtain ⟨b, off, rfl, -, -⟩ := h.2.2.2 h0
      exact ref08_Holes_some b off n c l t w h hn hh.1 ⟨hh.2, ht⟩
    · obtain rfl : n = 0 := by omega
      obtain rfl := List.eq_nil_of_length_eq_zero h.1
      have e : PS.holes [] t = [(0, t)] := by unfold PS.holes; rw [if_pos hh]; simp [PS.holK, PS.piece]; omega
      rw [e]
      exact ref08_Holes_empty A c t w ⟨hh.2, ht⟩
  · have e : PS.holes l t = [] := by unfold PS.holes; rw [if_neg hh]
    rw [e]
    refine ref08_Holes_no c t h ?_
    rcases hb : PS.right l with _ | _
    · exact .inl rfl
    · exact .inr (by have : ¬ 1 ≤ t := fun x => hh ⟨hb, x⟩; omega)
end Go.Proofs.Ytfgfnfjeopjbgaa
