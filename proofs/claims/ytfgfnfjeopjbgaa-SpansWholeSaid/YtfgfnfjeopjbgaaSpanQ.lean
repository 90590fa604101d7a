/-
  Layer 8 (spans): Cut, and the reference's.
-/
import Derived.Test.YtfgfnfjeopjbgaaSpanP
namespace Go.Proofs.Ytfgfnfjeopjbgaa
open Go.RowKit
set_option linter.unusedVariables false
set_option linter.unusedSimpArgs false
attribute [local go_sem] drewN_alloc drewN_setCell

/-- append in a list of operations; other blocks stay. -/
theorem app_list2 {ops : Array Oper} {rest : List Oper} {o : Oper} {a : Act} {Q : Exit → Act → World → Prop} {w : World} (hgd : o.guard = none) (s x : Operand)
    (ho : o.op = .call { callee := .builtin .append, args := #[s, x], argTypes := #[30, 30] })
    (B : Nat) (v : Value) (l : List PS.Sp) (hsv : a.eval s = v) (hown : OwnS B w v l)
    (A : Option Addr) (m c : Nat) (l2 : List PS.Sp) (hx : a.eval x = .slice A m c) (hs : SrcS 2 w A m (cellsS l2)) (hlen : l.length + m ≤ 1048576) (hbase : B ≤ w.heap.size)
    (h : ∀ v' w', OwnS B w' v' (l ++ l2) → Below B w w' → w.grownBy w' v.ownBlock → wpList Try.prog ops Q rest (a.put o.dst v') w') : wpList Try.prog ops Q (o :: rest) a w := by
  obtain ⟨i, hi, hz, hsz, hby⟩ := infoSpan
  refine wpList_append_S w hgd 2 (by decide) s x 30 ho B 37 i _ 16 Try.underlying30 hi hz hsz hby rfl v l.length _ hsv hown A m c _ hx hs (cellsS_one' l2) (by unfold maxLen; omega) (by omega) hbase (fun v' w' h2 h3 h4 => ?_)
  refine h v' w' ?_ ((Below.refl B w).grown h3 hbase (fun g hg => (hown.lt g hg).1)) h3
  have hm : m = l2.length := by have := hs.1; rw [cellsS_len] at this; omega
  unfold OwnS
  rw [cellsS_append, List.length_append, ← hm]
  exact h2
theorem own_ne {B : Nat} {w : World} {v : Value} {l : List PS.Sp} (h : OwnS B w v l) {g : Nat} (hg : w.heap.size ≤ g) : some g ≠ v.ownBlock := fun e => by
  have := (World.ownsRow.lt h g e.symm).2
  omega
theorem piece_yes {a b : Int} (h : a < b) : PS.piece a b = [(a, b - a)] := if_pos h
theorem piece_no {a b : Int} (h : ¬ a < b) : PS.piece a b = [] := if_neg h
theorem piece_bd {a b : Int} (ha : 0 ≤ a ∧ a ≤ 9223372036854775807) (hb : 0 ≤ b ∧ b ≤ 9223372036854775807) : ∀ s ∈ PS.piece a b, SpBd s := by
  intro s hs
  unfold PS.piece at hs
  split at hs
  · obtain rfl := List.mem_singleton.1 hs
    exact ⟨⟨by dsimp only; omega, by dsimp only; omega⟩, by dsimp only; omega, by dsimp only; omega⟩
  · simp at hs
theorem cut_bd {at_ en : Int} {fits : Bool} {l : List PS.Sp} (hr : PS.right l = true) (h1 : 0 ≤ at_ ∧ at_ ≤ 9223372036854775807) (h2 : 0 ≤ en ∧ en ≤ 9223372036854775807) : ∀ s ∈ PS.cutL at_ fits en l, SpBd s := by
  intro s hs
  unfold PS.cutL at hs
  obtain ⟨p, hp, hs⟩ := List.mem_flatMap.1 hs
  obtain ⟨k, hk, rfl⟩ := List.mem_iff_getElem.1 hp
  have hw := (PS.whole_iff _).1 (PS.right_whole hr hk)
  unfold PS.cut1 at hs
  rcases List.mem_append.1 hs with hs | hs
  · exact piece_bd ⟨by omega, by omega⟩ ⟨by unfold PS.fin; omega, by unfold PS.fin; omega⟩ s hs
  · split at hs
    · exact piece_bd ⟨by omega, by omega⟩ ⟨by unfold PS.fin; omega, by unfold PS.fin; omega⟩ s hs
    · simp at hs

theorem spans_Cut_no {A : Option Addr} {n : Nat} {l : List PS.Sp} (c : Nat) (t q : Int) {w : World} (h : SpansAt w A n l) (hr : PS.right l = false ∨ t < 0 ∨ q < 0) :
    Calls Try.prog 66 #[.slice A n c, .int .i64 t, .int .i64 q] w (GivesL w 0 [] false) := by
  have K := spans_Right c h
  have HG : ∀ w', Below w.heap.size w w' → GivesL w 0 [] false (.returned (.tuple #[.slice none 0 0, .bool false])) w' := fun w' hb => ⟨none, 0, rfl, SpansAt.nil, ⟨Nat.le_refl _, by omega, fun _ => rfl, fun ad e => by simp at e⟩, hb⟩
  replace HG := Lib.hid HG
  clear h
  rcases hb : PS.right l with _ | _
  · rw [hb] at K
    replace K := Lib.hid K
    clear hr hb
    go_enter Try.func66, Try.ntmps66
    go_wp2_with fail
    refine K.out.mono ?_
    rintro e w5 ⟨rfl, h5⟩
    go_wp2_with fail
    go_ret2
    exact HG.out _ (by repeat (first | exact Below.refl _ _ | assumption | refine bel_drew ?_ | refine bel_drewN ?_ _ | refine bel_alloc ?_ _ | refine bel_set ?_ (by first | (dsimp only; omega) | (simp; done) | (simp; omega)) _ | refine bel_trans ?_ (by assumption)))
  · rw [hb] at K
    replace K := Lib.hid K
    have hs : t < 0 ∨ q < 0 := hr.resolve_left (by rw [hb]; simp)
    clear hr hb
    by_cases h1 : t < 0
    · clear hs
      go_enter Try.func66, Try.ntmps66
      go_wp2_with fail
      refine K.out.mono ?_
      rintro e w5 ⟨rfl, h5⟩
      go_wp2_with fail
      go_ret2
      exact HG.out _ (by repeat (first | exact Below.refl _ _ | assumption | refine bel_drew ?_ | refine bel_drewN ?_ _ | refine bel_alloc ?_ _ | refine bel_set ?_ (by first | (dsimp only; omega) | (simp; done) | (simp; omega)) _ | refine bel_trans ?_ (by assumption)))
    · have h2 : q < 0 := hs.resolve_left h1
      replace h1 : 0 ≤ t := by omega
      clear hs
      go_enter Try.func66, Try.ntmps66
      go_wp2_with fail
      refine K.out.mono ?_
      rintro e w5 ⟨rfl, h5⟩
      go_wp2_with fail
      go_ret2
      exact HG.out _ (by repeat (first | exact Below.refl _ _ | assumption | refine bel_drew ?_ | refine bel_drewN ?_ _ | refine bel_alloc ?_ _ | refine bel_set ?_ (by first | (dsimp only; omega) | (simp; done) | (simp; omega)) _ | refine bel_trans ?_ (by assumption)))

theorem ref08_Cut_no {A : Option Addr} {n : Nat} {l : List PS.Sp} (c : Nat) (t q : Int) {w : World} (h : SpansAt w A n l) (hr : PS.right l = false ∨ t < 0 ∨ q < 0) :
    Calls Try.prog 67 #[.slice A n c, .int .i64 t, .int .i64 q] w (GivesL w 0 [] false) := by
  have K := ref08_Right c h
  have HG : ∀ w', Below w.heap.size w w' → GivesL w 0 [] false (.returned (.tuple #[.slice none 0 0, .bool false])) w' := fun w' hb => ⟨none, 0, rfl, SpansAt.nil, ⟨Nat.le_refl _, by omega, fun _ => rfl, fun ad e => by simp at e⟩, hb⟩
  replace HG := Lib.hid HG
  clear h
  rcases hb : PS.right l with _ | _
  · rw [hb] at K
    replace K := Lib.hid K
    clear hr hb
    go_enter Try.func67, Try.ntmps67
    go_wp2_with fail
    refine K.out.mono ?_
    rintro e w5 ⟨rfl, h5⟩
    go_wp2_with fail
    go_ret2
    exact HG.out _ (by repeat (first | exact Below.refl _ _ | assumption | refine bel_drew ?_ | refine bel_drewN ?_ _ | refine bel_alloc ?_ _ | refine bel_set ?_ (by first | (dsimp only; omega) | (simp; done) | (simp; omega)) _ | refine bel_trans ?_ (by assumption)))
  · rw [hb] at K
    replace K := Lib.hid K
    have hs : t < 0 ∨ q < 0 := hr.resolve_left (by rw [hb]; simp)
    clear hr hb
    by_cases h1 : t < 0
    · clear hs
      go_enter Try.func67, Try.ntmps67
      go_wp2_with fail
      refine K.out.mono ?_
      rintro e w5 ⟨rfl, h5⟩
      go_wp2_with fail
      go_ret2
      exact HG.out _ (by repeat (first | exact Below.refl _ _ | assumption | refine bel_drew ?_ | refine bel_drewN ?_ _ | refine bel_alloc ?_ _ | refine bel_set ?_ (by first | (dsimp only; omega) | (simp; done) | (simp; omega)) _ | refine bel_trans ?_ (by assumption)))
    · have h2 : q < 0 := hs.resolve_left h1
      replace h1 : 0 ≤ t := by omega
      clear hs
      go_enter Try.func67, Try.ntmps67
      go_wp2_with fail
      refine K.out.mono ?_
      rintro e w5 ⟨rfl, h5⟩
      go_wp2_with fail
      go_ret2
      exact HG.out _ (by repeat (first | exact Below.refl _ _ | assumption | refine bel_drew ?_ | refine bel_drewN ?_ _ | refine bel_alloc ?_ _ | refine bel_set ?_ (by first | (dsimp only; omega) | (simp; done) | (simp; omega)) _ | refine bel_trans ?_ (by assumption)))

def CutRel (w : World) (l : List PS.Sp) (t en : Int) (fits : Bool) (n : Nat) (out i : Value) (wr : World) : Prop :=
  ∃ k : Nat, k ≤ n ∧ i = .int .i64 k ∧ OwnS w.heap.size wr out (PS.cutL t fits en (l.take k)) ∧ Below w.heap.size w wr

set_option maxRecDepth 100000 in
set_option maxHeartbeats 16000000 in
theorem spans_Cut_some (b off n c : Nat) (l : List PS.Sp) (t q en : Int) (fits : Bool) (w : World) (h : SpansAt w (some ⟨b, off, none⟩) n l) (hn : n ≤ 1000) (hr : PS.right l = true) (ht : 0 ≤ t ∧ t ≤ 9223372036854775807) (hq : 0 < q ∧ q ≤ 9223372036854775807) (he : PN.add t q = (en, fits)) (he0 : 0 ≤ en ∧ en ≤ 9223372036854775807) :
    Calls Try.prog 66 #[.slice (some ⟨b, off, none⟩) n c, .int .i64 t, .int .i64 q] w (GivesL w (PS.cutL t fits en l).length (PS.cutL t fits en l) true) := by
  have K := spans_Right c h
  rw [hr] at K
  have KA := fun W => num_Add t q W (by omega) (by omega)
  rw [he] at KA
  have HLn := h.1
  have HFIN : Hid (∀ v w', OwnS w.heap.size w' v (PS.cutL t fits en l) → Below w.heap.size w w' → GivesL w (PS.cutL t fits en l).length (PS.cutL t fits en l) true (.returned (.tuple #[v, .bool true])) w') := Lib.hid (fun v w' ho hb => by
    obtain ⟨A, c', rfl, hs, hc⟩ := ho.val (cut_bd hr ht he0)
    exact ⟨A, c', rfl, hs, hc, hb⟩)
  have HCL : Hid (∀ k, (PS.cutL t fits en (l.take k)).length ≤ 2000) := Lib.hid (fun k => by have := PS.cut_len t fits en (l.take k); simp at this; omega)
  obtain ⟨PO, hPO⟩ : ∃ PO, GivesL w (PS.cutL t fits en l).length (PS.cutL t fits en l) true = PO := ⟨_, rfl⟩
  rw [hPO] at HFIN ⊢
  have H' := Lib.hid h
  replace K := Lib.hid K
  replace KA := Lib.hid KA
  replace HLn := Lib.hid HLn
  replace hr := Lib.hid hr
  obtain ⟨t1, t2⟩ := ht
  obtain ⟨q1, q2⟩ := hq
  obtain ⟨e1, e2⟩ := he0
  have hq0 : (q == 0) = false := by simp; omega
  clear h he hPO
  go_enter Try.func66, Try.ntmps66
  go_wp2_with fail
  refine K.out.mono ?_
  rintro e w1 ⟨rfl, h1⟩
  go_wp2_with fail
  refine (KA.out _).mono ?_
  rintro e w2 ⟨rfl, rfl⟩
  dsimp only
  go_wp2_with fail
  go_loopw [10, 40] (fun out i wr => CutRel w l t en fits n out i wr) (fun _ i _ => n - (intOf i).toNat)
  case atStart => exact ⟨0, Nat.zero_le _, rfl, OwnS.nil _ _, (by repeat (first | exact Below.refl _ _ | assumption | refine bel_drew ?_ | refine bel_drewN ?_ _ | refine bel_alloc ?_ _ | refine bel_set ?_ (by first | (dsimp only; omega) | (simp; done) | (simp; omega)) _ | refine bel_trans ?_ (by assumption)))⟩
  case round =>
    obtain ⟨k, hk, rfl, hown, hbel⟩ := hrel
    have j1 : (0 : Int) ≤ (k : Int) := by omega
    have HO : Hid (∀ W, Below wr.heap.size wr W → OwnS w.heap.size W _ (PS.cutL t fits en (l.take k))) := Lib.hid (fun W hW => hown.keep hW)
    have HBS : Hid (∀ W, Below wr.heap.size wr W → w.heap.size ≤ W.heap.size) := Lib.hid (fun W hW => Nat.le_trans hbel.size hW.size)
    have HNE : Hid (∀ g, wr.heap.size ≤ g → some g ≠ Value.ownBlock _) := Lib.hid (fun g hg => own_ne hown hg)
    have HLEN : Hid ((PS.cutL t fits en (l.take k)).length + 2 ≤ 1048576) := Lib.hid (by have := HCL.out k; omega)
    replace hown := Lib.hid hown
    by_cases hlt : (k : Int) < n
    · have hkl : k < l.length := by have := HLn.out; omega
      obtain ⟨x, m, hs, x0, x1, bx1, bm1⟩ := H'.out.row hbel (k := k) (by omega)
      have hw := (PS.whole_iff _).1 (PS.right_whole hr.out hkl)
      have st := PS.cut_step (at_ := t) (fits := fits) (end_ := en) hkl
      rw [hs hkl] at hw st
      unfold PS.cut1 PS.fin at st
      dsimp only at hw st
      obtain ⟨g1, g2, g3⟩ := hw
      clear hs
      obtain ⟨b1, hb1⟩ : ∃ b1, min t (x + m) = b1 := ⟨_, rfl⟩
      obtain ⟨a2, ha2⟩ : ∃ a2, max en x = a2 := ⟨_, rfl⟩
      rw [hb1, ha2] at st
      have rb1 : 0 ≤ b1 ∧ b1 ≤ 9223372036854775807 := by omega
      have ra2 : 0 ≤ a2 ∧ a2 ≤ 9223372036854775807 := by omega
      obtain ⟨rb2, rb3⟩ := rb1
      obtain ⟨ra3, ra4⟩ := ra2
      have K1 := fun W => spans_part x m 0 t W ⟨g1, by omega⟩ ⟨by omega, g3⟩ (by omega) ⟨t1, t2⟩
      have K2 := fun W => spans_part x m en (x + m) W ⟨g1, by omega⟩ ⟨by omega, g3⟩ ⟨e1, e2⟩ ⟨by omega, g3⟩
      rw [show max 0 x = x by omega, hb1] at K1
      rw [show min (x + m) (x + m) = x + m by omega, ha2] at K2
      replace K1 := Lib.hid K1
      replace K2 := Lib.hid K2
      clear hb1 ha2
      by_cases hf1 : x < b1
      · cases fits
        · have ST : Hid (PS.cutL t false en (l.take (k + 1)) = (PS.cutL t false en (l.take k)) ++ [(x, b1 - x)]) := Lib.hid (by
            rw [st]
            rw [piece_yes hf1]
            rw [if_neg (by simp)]
            simp)
          have K1' := K1.out
          have K2' := K2.out
          rw [decide_eq_true hf1] at K1'
          replace K1' := Lib.hid K1'
          replace K2' := Lib.hid K2'
          clear st K1 K2 hf1
          generalize decide (a2 < x + m) = ff2 at *
          go_wp2_with fail
          refine (K1'.out _).mono ?_
          rintro e w5 ⟨rfl, h5⟩
          have s0 := cell_after (a := ⟨wr.heap.size, 0, none⟩) (v := .int .i64 x) h5 (by simp) (by simp [go_sem])
          have s1 := cell_after (a := ⟨wr.heap.size, 1, none⟩) (v := .int .i64 m) h5 (by simp) (by simp [go_sem])
          have zs : wr.heap.size < w5.heap.size := by have := h5.size; simp at this; omega
          go_wp2_with (at_builtin; refine app_list2 rfl (.tmp 51) (.tmp 53) rfl w.heap.size _ (PS.cutL t false en (l.take k)) rfl (HO.out _ (by repeat (first | exact Below.refl _ _ | assumption | refine bel_drew ?_ | refine bel_drewN ?_ _ | refine bel_alloc ?_ _ | refine bel_set ?_ (by first | (dsimp only; omega) | (simp; done) | (simp; omega)) _ | refine bel_trans ?_ (by assumption)))) (some ⟨_, 0, none⟩) 1 1 [(x, b1 - x)] rfl (src_one (by simp [go_sem]) (by simp [go_sem])) (Nat.le_trans (Nat.le_succ _) HLEN.out) (HBS.out _ (by repeat (first | exact Below.refl _ _ | assumption | refine bel_drew ?_ | refine bel_drewN ?_ _ | refine bel_alloc ?_ _ | refine bel_set ?_ (by first | (dsimp only; omega) | (simp; done) | (simp; omega)) _ | refine bel_trans ?_ (by assumption)))) ?_; intro v1 x1 ho1 hb1 hg1; have r0 := World.grownBy.cell hg1 (a := ⟨wr.heap.size, 0, none⟩) (v := .int .i64 x) (cell_alloc _ (by first | (simp; done) | (simp; omega)) (cell_alloc _ zs s0)) (HNE.out _ (Nat.le_refl _)); have r1 := World.grownBy.cell hg1 (a := ⟨wr.heap.size, 1, none⟩) (v := .int .i64 m) (cell_alloc _ (by first | (simp; done) | (simp; omega)) (cell_alloc _ zs s1)) (HNE.out _ (Nat.le_refl _)); have hb1' := bel_trans' (show Below w.heap.size w _ from (by repeat (first | exact Below.refl _ _ | assumption | refine bel_drew ?_ | refine bel_drewN ?_ _ | refine bel_alloc ?_ _ | refine bel_set ?_ (by first | (dsimp only; omega) | (simp; done) | (simp; omega)) _ | refine bel_trans ?_ (by assumption)))) hb1 (Nat.le_refl _); replace ho1 := Lib.hid ho1; clear hg1 hb1 s0 s1)
          refine (K2'.out _).mono ?_
          rintro e w6 ⟨rfl, h6⟩
          have hb6 : Below w.heap.size w w6 := bel_trans' hb1' h6 hb1'.size
          have ho6 := Lib.hid (ho1.out.keep h6)
          go_wp2_with fail
          all_goals
            go_roundw
            case rel => exact ⟨k + 1, by omega, by go_num, by rw [ST.out]; exact (ho6.out.keep (by repeat (first | exact Below.refl _ _ | assumption | refine bel_drew ?_ | refine bel_drewN ?_ _ | refine bel_alloc ?_ _ | refine bel_set ?_ (by first | (dsimp only; omega) | (simp; done) | (simp; omega)) _ | refine bel_trans ?_ (by assumption)))), (by repeat (first | exact Below.refl _ _ | assumption | refine bel_drew ?_ | refine bel_drewN ?_ _ | refine bel_alloc ?_ _ | refine bel_set ?_ (by first | (dsimp only; omega) | (simp; done) | (simp; omega)) _ | refine bel_trans ?_ (by assumption)))⟩
            case measure => simp [intOf]; omega
        · by_cases hf2 : a2 < x + m
          · have ST : Hid (PS.cutL t true en (l.take (k + 1)) = (PS.cutL t true en (l.take k)) ++ [(x, b1 - x)] ++ [(a2, x + m - a2)]) := Lib.hid (by
              rw [st]
              rw [piece_yes hf1, if_pos rfl, piece_yes hf2]
              simp)
            have K1' := K1.out
            have K2' := K2.out
            rw [decide_eq_true hf1] at K1'
            rw [decide_eq_true hf2] at K2'
            replace K1' := Lib.hid K1'
            replace K2' := Lib.hid K2'
            clear st K1 K2 hf1
            clear hf2
            go_wp2_with fail
            refine (K1'.out _).mono ?_
            rintro e w5 ⟨rfl, h5⟩
            have s0 := cell_after (a := ⟨wr.heap.size, 0, none⟩) (v := .int .i64 x) h5 (by simp) (by simp [go_sem])
            have s1 := cell_after (a := ⟨wr.heap.size, 1, none⟩) (v := .int .i64 m) h5 (by simp) (by simp [go_sem])
            have zs : wr.heap.size < w5.heap.size := by have := h5.size; simp at this; omega
            go_wp2_with (at_builtin; refine app_list2 rfl (.tmp 51) (.tmp 53) rfl w.heap.size _ (PS.cutL t true en (l.take k)) rfl (HO.out _ (by repeat (first | exact Below.refl _ _ | assumption | refine bel_drew ?_ | refine bel_drewN ?_ _ | refine bel_alloc ?_ _ | refine bel_set ?_ (by first | (dsimp only; omega) | (simp; done) | (simp; omega)) _ | refine bel_trans ?_ (by assumption)))) (some ⟨_, 0, none⟩) 1 1 [(x, b1 - x)] rfl (src_one (by simp [go_sem]) (by simp [go_sem])) (Nat.le_trans (Nat.le_succ _) HLEN.out) (HBS.out _ (by repeat (first | exact Below.refl _ _ | assumption | refine bel_drew ?_ | refine bel_drewN ?_ _ | refine bel_alloc ?_ _ | refine bel_set ?_ (by first | (dsimp only; omega) | (simp; done) | (simp; omega)) _ | refine bel_trans ?_ (by assumption)))) ?_; intro v1 x1 ho1 hb1 hg1; have r0 := World.grownBy.cell hg1 (a := ⟨wr.heap.size, 0, none⟩) (v := .int .i64 x) (cell_alloc _ (by first | (simp; done) | (simp; omega)) (cell_alloc _ zs s0)) (HNE.out _ (Nat.le_refl _)); have r1 := World.grownBy.cell hg1 (a := ⟨wr.heap.size, 1, none⟩) (v := .int .i64 m) (cell_alloc _ (by first | (simp; done) | (simp; omega)) (cell_alloc _ zs s1)) (HNE.out _ (Nat.le_refl _)); have hb1' := bel_trans' (show Below w.heap.size w _ from (by repeat (first | exact Below.refl _ _ | assumption | refine bel_drew ?_ | refine bel_drewN ?_ _ | refine bel_alloc ?_ _ | refine bel_set ?_ (by first | (dsimp only; omega) | (simp; done) | (simp; omega)) _ | refine bel_trans ?_ (by assumption)))) hb1 (Nat.le_refl _); replace ho1 := Lib.hid ho1; clear hg1 hb1 s0 s1)
            refine (K2'.out _).mono ?_
            rintro e w6 ⟨rfl, h6⟩
            have hb6 : Below w.heap.size w w6 := bel_trans' hb1' h6 hb1'.size
            have ho6 := Lib.hid (ho1.out.keep h6)
            go_wp2_with (at_builtin; refine app_list2 rfl (.tmp 70) (.tmp 72) rfl w.heap.size _ ((PS.cutL t true en (l.take k)) ++ [(x, b1 - x)]) rfl (OwnS.keep ho6.out (bel_alloc (bel_alloc (Below.refl _ _) _) _)) (some ⟨_, 0, none⟩) 1 1 [(a2, x + m - a2)] rfl (src_one (by simp [go_sem]) (by simp [go_sem])) (by have := HLEN.out; simp only [List.length_append, List.length_cons, List.length_nil]; omega) (Nat.le_trans hb6.size (by first | (simp; done) | (simp; omega))) ?_; intro v2 x2 ho2 hb2 hg2; have hb2' := Lib.hid (bel_trans' (show Below w.heap.size w _ from (by repeat (first | exact Below.refl _ _ | assumption | refine bel_drew ?_ | refine bel_drewN ?_ _ | refine bel_alloc ?_ _ | refine bel_set ?_ (by first | (dsimp only; omega) | (simp; done) | (simp; omega)) _ | refine bel_trans ?_ (by assumption)))) hb2 (Nat.le_refl _)); replace ho2 := Lib.hid ho2; clear hg2 hb2)
            go_roundw
            case rel => exact ⟨k + 1, by omega, by go_num, by rw [ST.out]; exact ho2.out, hb2'.out⟩
            case measure => simp [intOf]; omega
          · have ST : Hid (PS.cutL t true en (l.take (k + 1)) = (PS.cutL t true en (l.take k)) ++ [(x, b1 - x)]) := Lib.hid (by
              rw [st]
              rw [piece_yes hf1]
              rw [if_pos rfl, piece_no hf2]
              simp)
            have K1' := K1.out
            have K2' := K2.out
            rw [decide_eq_true hf1] at K1'
            rw [decide_eq_false hf2] at K2'
            replace K1' := Lib.hid K1'
            replace K2' := Lib.hid K2'
            clear st K1 K2 hf1
            clear hf2
            go_wp2_with fail
            refine (K1'.out _).mono ?_
            rintro e w5 ⟨rfl, h5⟩
            have s0 := cell_after (a := ⟨wr.heap.size, 0, none⟩) (v := .int .i64 x) h5 (by simp) (by simp [go_sem])
            have s1 := cell_after (a := ⟨wr.heap.size, 1, none⟩) (v := .int .i64 m) h5 (by simp) (by simp [go_sem])
            have zs : wr.heap.size < w5.heap.size := by have := h5.size; simp at this; omega
            go_wp2_with (at_builtin; refine app_list2 rfl (.tmp 51) (.tmp 53) rfl w.heap.size _ (PS.cutL t true en (l.take k)) rfl (HO.out _ (by repeat (first | exact Below.refl _ _ | assumption | refine bel_drew ?_ | refine bel_drewN ?_ _ | refine bel_alloc ?_ _ | refine bel_set ?_ (by first | (dsimp only; omega) | (simp; done) | (simp; omega)) _ | refine bel_trans ?_ (by assumption)))) (some ⟨_, 0, none⟩) 1 1 [(x, b1 - x)] rfl (src_one (by simp [go_sem]) (by simp [go_sem])) (Nat.le_trans (Nat.le_succ _) HLEN.out) (HBS.out _ (by repeat (first | exact Below.refl _ _ | assumption | refine bel_drew ?_ | refine bel_drewN ?_ _ | refine bel_alloc ?_ _ | refine bel_set ?_ (by first | (dsimp only; omega) | (simp; done) | (simp; omega)) _ | refine bel_trans ?_ (by assumption)))) ?_; intro v1 x1 ho1 hb1 hg1; have r0 := World.grownBy.cell hg1 (a := ⟨wr.heap.size, 0, none⟩) (v := .int .i64 x) (cell_alloc _ (by first | (simp; done) | (simp; omega)) (cell_alloc _ zs s0)) (HNE.out _ (Nat.le_refl _)); have r1 := World.grownBy.cell hg1 (a := ⟨wr.heap.size, 1, none⟩) (v := .int .i64 m) (cell_alloc _ (by first | (simp; done) | (simp; omega)) (cell_alloc _ zs s1)) (HNE.out _ (Nat.le_refl _)); have hb1' := bel_trans' (show Below w.heap.size w _ from (by repeat (first | exact Below.refl _ _ | assumption | refine bel_drew ?_ | refine bel_drewN ?_ _ | refine bel_alloc ?_ _ | refine bel_set ?_ (by first | (dsimp only; omega) | (simp; done) | (simp; omega)) _ | refine bel_trans ?_ (by assumption)))) hb1 (Nat.le_refl _); replace ho1 := Lib.hid ho1; clear hg1 hb1 s0 s1)
            refine (K2'.out _).mono ?_
            rintro e w6 ⟨rfl, h6⟩
            have hb6 : Below w.heap.size w w6 := bel_trans' hb1' h6 hb1'.size
            have ho6 := Lib.hid (ho1.out.keep h6)
            go_wp2_with fail
            all_goals
              go_roundw
              case rel => exact ⟨k + 1, by omega, by go_num, by rw [ST.out]; exact (ho6.out.keep (by repeat (first | exact Below.refl _ _ | assumption | refine bel_drew ?_ | refine bel_drewN ?_ _ | refine bel_alloc ?_ _ | refine bel_set ?_ (by first | (dsimp only; omega) | (simp; done) | (simp; omega)) _ | refine bel_trans ?_ (by assumption)))), (by repeat (first | exact Below.refl _ _ | assumption | refine bel_drew ?_ | refine bel_drewN ?_ _ | refine bel_alloc ?_ _ | refine bel_set ?_ (by first | (dsimp only; omega) | (simp; done) | (simp; omega)) _ | refine bel_trans ?_ (by assumption)))⟩
              case measure => simp [intOf]; omega
      · cases fits
        · have ST : Hid (PS.cutL t false en (l.take (k + 1)) = (PS.cutL t false en (l.take k))) := Lib.hid (by
            rw [st]
            rw [piece_no hf1]
            rw [if_neg (by simp)]
            simp)
          have K1' := K1.out
          have K2' := K2.out
          rw [decide_eq_false hf1] at K1'
          replace K1' := Lib.hid K1'
          replace K2' := Lib.hid K2'
          clear st K1 K2 hf1
          generalize decide (a2 < x + m) = ff2 at *
          go_wp2_with fail
          refine (K1'.out _).mono ?_
          rintro e w5 ⟨rfl, h5⟩
          have s0 := cell_after (a := ⟨wr.heap.size, 0, none⟩) (v := .int .i64 x) h5 (by simp) (by simp [go_sem])
          have s1 := cell_after (a := ⟨wr.heap.size, 1, none⟩) (v := .int .i64 m) h5 (by simp) (by simp [go_sem])
          have zs : wr.heap.size < w5.heap.size := by have := h5.size; simp at this; omega
          go_wp2_with fail
          refine (K2'.out _).mono ?_
          rintro e w6 ⟨rfl, h6⟩
          go_wp2_with fail
          all_goals
            go_roundw
            case rel => exact ⟨k + 1, by omega, by go_num, by rw [ST.out]; exact (HO.out _ (by repeat (first | exact Below.refl _ _ | assumption | refine bel_drew ?_ | refine bel_drewN ?_ _ | refine bel_alloc ?_ _ | refine bel_set ?_ (by first | (dsimp only; omega) | (simp; done) | (simp; omega)) _ | refine bel_trans ?_ (by assumption)))), (by repeat (first | exact Below.refl _ _ | assumption | refine bel_drew ?_ | refine bel_drewN ?_ _ | refine bel_alloc ?_ _ | refine bel_set ?_ (by first | (dsimp only; omega) | (simp; done) | (simp; omega)) _ | refine bel_trans ?_ (by assumption)))⟩
            case measure => simp [intOf]; omega
        · by_cases hf2 : a2 < x + m
          · have ST : Hid (PS.cutL t true en (l.take (k + 1)) = (PS.cutL t true en (l.take k)) ++ [(a2, x + m - a2)]) := Lib.hid (by
              rw [st]
              rw [piece_no hf1, if_pos rfl, piece_yes hf2]
              simp)
            have K1' := K1.out
            have K2' := K2.out
            rw [decide_eq_false hf1] at K1'
            rw [decide_eq_true hf2] at K2'
            replace K1' := Lib.hid K1'
            replace K2' := Lib.hid K2'
            clear st K1 K2 hf1
            clear hf2
            go_wp2_with fail
            refine (K1'.out _).mono ?_
            rintro e w5 ⟨rfl, h5⟩
            have s0 := cell_after (a := ⟨wr.heap.size, 0, none⟩) (v := .int .i64 x) h5 (by simp) (by simp [go_sem])
            have s1 := cell_after (a := ⟨wr.heap.size, 1, none⟩) (v := .int .i64 m) h5 (by simp) (by simp [go_sem])
            have zs : wr.heap.size < w5.heap.size := by have := h5.size; simp at this; omega
            go_wp2_with fail
            refine (K2'.out _).mono ?_
            rintro e w6 ⟨rfl, h6⟩
            go_wp2_with (at_builtin; refine app_list2 rfl (.tmp 70) (.tmp 72) rfl w.heap.size _ ((PS.cutL t true en (l.take k))) rfl (HO.out _ (by repeat (first | exact Below.refl _ _ | assumption | refine bel_drew ?_ | refine bel_drewN ?_ _ | refine bel_alloc ?_ _ | refine bel_set ?_ (by first | (dsimp only; omega) | (simp; done) | (simp; omega)) _ | refine bel_trans ?_ (by assumption)))) (some ⟨_, 0, none⟩) 1 1 [(a2, x + m - a2)] rfl (src_one (by simp [go_sem]) (by simp [go_sem])) (Nat.le_trans (Nat.le_succ _) HLEN.out) (HBS.out _ (by repeat (first | exact Below.refl _ _ | assumption | refine bel_drew ?_ | refine bel_drewN ?_ _ | refine bel_alloc ?_ _ | refine bel_set ?_ (by first | (dsimp only; omega) | (simp; done) | (simp; omega)) _ | refine bel_trans ?_ (by assumption)))) ?_; intro v2 x2 ho2 hb2 hg2; have hb2' := Lib.hid (bel_trans' (show Below w.heap.size w _ from (by repeat (first | exact Below.refl _ _ | assumption | refine bel_drew ?_ | refine bel_drewN ?_ _ | refine bel_alloc ?_ _ | refine bel_set ?_ (by first | (dsimp only; omega) | (simp; done) | (simp; omega)) _ | refine bel_trans ?_ (by assumption)))) hb2 (Nat.le_refl _)); replace ho2 := Lib.hid ho2; clear hg2 hb2)
            go_roundw
            case rel => exact ⟨k + 1, by omega, by go_num, by rw [ST.out]; exact ho2.out, hb2'.out⟩
            case measure => simp [intOf]; omega
          · have ST : Hid (PS.cutL t true en (l.take (k + 1)) = (PS.cutL t true en (l.take k))) := Lib.hid (by
              rw [st]
              rw [piece_no hf1]
              rw [if_pos rfl, piece_no hf2]
              simp)
            have K1' := K1.out
            have K2' := K2.out
            rw [decide_eq_false hf1] at K1'
            rw [decide_eq_false hf2] at K2'
            replace K1' := Lib.hid K1'
            replace K2' := Lib.hid K2'
            clear st K1 K2 hf1
            clear hf2
            go_wp2_with fail
            refine (K1'.out _).mono ?_
            rintro e w5 ⟨rfl, h5⟩
            have s0 := cell_after (a := ⟨wr.heap.size, 0, none⟩) (v := .int .i64 x) h5 (by simp) (by simp [go_sem])
            have s1 := cell_after (a := ⟨wr.heap.size, 1, none⟩) (v := .int .i64 m) h5 (by simp) (by simp [go_sem])
            have zs : wr.heap.size < w5.heap.size := by have := h5.size; simp at this; omega
            go_wp2_with fail
            refine (K2'.out _).mono ?_
            rintro e w6 ⟨rfl, h6⟩
            go_wp2_with fail
            all_goals
              go_roundw
              case rel => exact ⟨k + 1, by omega, by go_num, by rw [ST.out]; exact (HO.out _ (by repeat (first | exact Below.refl _ _ | assumption | refine bel_drew ?_ | refine bel_drewN ?_ _ | refine bel_alloc ?_ _ | refine bel_set ?_ (by first | (dsimp only; omega) | (simp; done) | (simp; omega)) _ | refine bel_trans ?_ (by assumption)))), (by repeat (first | exact Below.refl _ _ | assumption | refine bel_drew ?_ | refine bel_drewN ?_ _ | refine bel_alloc ?_ _ | refine bel_set ?_ (by first | (dsimp only; omega) | (simp; done) | (simp; omega)) _ | refine bel_trans ?_ (by assumption)))⟩
              case measure => simp [intOf]; omega
    · have htk : l.take k = l := List.take_of_length_le (by have := HLn.out; omega)
      have ho := hown.out
      rw [htk] at ho
      have hfin := HFIN.out _ _ ho hbel
      replace hfin := Lib.hid hfin
      replace hlt : (n : Int) ≤ k := by omega
      clear htk ho HO HLEN HNE hown
      go_wp2_with fail
      exact hfin.out

set_option maxRecDepth 100000 in
set_option maxHeartbeats 16000000 in
theorem ref08_Cut_some (b off n c : Nat) (l : List PS.Sp) (t q en : Int) (fits : Bool) (w : World) (h : SpansAt w (some ⟨b, off, none⟩) n l) (hn : n ≤ 1000) (hr : PS.right l = true) (ht : 0 ≤ t ∧ t ≤ 9223372036854775807) (hq : 0 < q ∧ q ≤ 9223372036854775807) (he : PN.add t q = (en, fits)) (he0 : 0 ≤ en ∧ en ≤ 9223372036854775807) :
    Calls Try.prog 67 #[.slice (some ⟨b, off, none⟩) n c, .int .i64 t, .int .i64 q] w (GivesL w (PS.cutL t fits en l).length (PS.cutL t fits en l) true) := by
  have K := ref08_Right c h
  rw [hr] at K
  have KA := fun W => ref01_Add t q W (by omega) (by omega)
  rw [he] at KA
  have HLn := h.1
  have HFIN : Hid (∀ v w', OwnS w.heap.size w' v (PS.cutL t fits en l) → Below w.heap.size w w' → GivesL w (PS.cutL t fits en l).length (PS.cutL t fits en l) true (.returned (.tuple #[v, .bool true])) w') := Lib.hid (fun v w' ho hb => by
    obtain ⟨A, c', rfl, hs, hc⟩ := ho.val (cut_bd hr ht he0)
    exact ⟨A, c', rfl, hs, hc, hb⟩)
  have HCL : Hid (∀ k, (PS.cutL t fits en (l.take k)).length ≤ 2000) := Lib.hid (fun k => by have := PS.cut_len t fits en (l.take k); simp at this; omega)
  obtain ⟨PO, hPO⟩ : ∃ PO, GivesL w (PS.cutL t fits en l).length (PS.cutL t fits en l) true = PO := ⟨_, rfl⟩
  rw [hPO] at HFIN ⊢
  have H' := Lib.hid h
  replace K := Lib.hid K
  replace KA := Lib.hid KA
  replace HLn := Lib.hid HLn
  replace hr := Lib.hid hr
  obtain ⟨t1, t2⟩ := ht
  obtain ⟨q1, q2⟩ := hq
  obtain ⟨e1, e2⟩ := he0
  have hq0 : (q == 0) = false := by simp; omega
  clear h he hPO
  go_enter Try.func67, Try.ntmps67
  go_wp2_with fail
  refine K.out.mono ?_
  rintro e w1 ⟨rfl, h1⟩
  go_wp2_with fail
  go_loopw [8, 9] (fun out i wr => CutRel w l t en fits n out i wr) (fun _ i _ => n - (intOf i).toNat)
  case atStart => exact ⟨0, Nat.zero_le _, rfl, OwnS.nil _ _, (by repeat (first | exact Below.refl _ _ | assumption | refine bel_drew ?_ | refine bel_drewN ?_ _ | refine bel_alloc ?_ _ | refine bel_set ?_ (by first | (dsimp only; omega) | (simp; done) | (simp; omega)) _ | refine bel_trans ?_ (by assumption)))⟩
  case round =>
    obtain ⟨k, hk, rfl, hown, hbel⟩ := hrel
    have j1 : (0 : Int) ≤ (k : Int) := by omega
    have HO : Hid (∀ W, Below wr.heap.size wr W → OwnS w.heap.size W _ (PS.cutL t fits en (l.take k))) := Lib.hid (fun W hW => hown.keep hW)
    have HBS : Hid (∀ W, Below wr.heap.size wr W → w.heap.size ≤ W.heap.size) := Lib.hid (fun W hW => Nat.le_trans hbel.size hW.size)
    have HNE : Hid (∀ g, wr.heap.size ≤ g → some g ≠ Value.ownBlock _) := Lib.hid (fun g hg => own_ne hown hg)
    have HLEN : Hid ((PS.cutL t fits en (l.take k)).length + 2 ≤ 1048576) := Lib.hid (by have := HCL.out k; omega)
    replace hown := Lib.hid hown
    by_cases hlt : (k : Int) < n
    · have hkl : k < l.length := by have := HLn.out; omega
      obtain ⟨x, m, hs, x0, x1, bx1, bm1⟩ := H'.out.row hbel (k := k) (by omega)
      have hw := (PS.whole_iff _).1 (PS.right_whole hr.out hkl)
      have st := PS.cut_step (at_ := t) (fits := fits) (end_ := en) hkl
      rw [hs hkl] at hw st
      unfold PS.cut1 PS.fin at st
      dsimp only at hw st
      obtain ⟨g1, g2, g3⟩ := hw
      clear hs
      obtain ⟨b1, hb1⟩ : ∃ b1, min t (x + m) = b1 := ⟨_, rfl⟩
      obtain ⟨a2, ha2⟩ : ∃ a2, max en x = a2 := ⟨_, rfl⟩
      rw [hb1, ha2] at st
      have rb1 : 0 ≤ b1 ∧ b1 ≤ 9223372036854775807 := by omega
      have ra2 : 0 ≤ a2 ∧ a2 ≤ 9223372036854775807 := by omega
      obtain ⟨rb2, rb3⟩ := rb1
      obtain ⟨ra3, ra4⟩ := ra2
      have im : (if t - x < m then t - x else m) = b1 - x := by rw [← hb1, Int.min_def]; split <;> split <;> omega
      have ix : (if x < en then en else x) = a2 := by rw [← ha2, Int.max_def]; split <;> split <;> omega
      have hlt1 : x < b1 ↔ x < t := by omega
      clear hb1 ha2
      by_cases hf1 : x < b1
      · cases fits
        · have ST : Hid (PS.cutL t false en (l.take (k + 1)) = (PS.cutL t false en (l.take k)) ++ [(x, b1 - x)]) := Lib.hid (by
            rw [st]
            rw [piece_yes hf1]
            rw [if_neg (by simp)]
            simp)
          have hx1 : x < t := by have := hlt1; exact this.1 hf1
          clear st hf1 hlt1
          go_wp2_with (at_builtin; refine app_list2 rfl (.tmp 42) (.tmp 53) rfl w.heap.size _ (PS.cutL t false en (l.take k)) rfl (HO.out _ (by repeat (first | exact Below.refl _ _ | assumption | refine bel_drew ?_ | refine bel_drewN ?_ _ | refine bel_alloc ?_ _ | refine bel_set ?_ (by first | (dsimp only; omega) | (simp; done) | (simp; omega)) _ | refine bel_trans ?_ (by assumption)))) (some ⟨_, 0, none⟩) 1 1 [(x, b1 - x)] rfl (src_one (by simp [go_sem]) (by simp [go_sem])) (Nat.le_trans (Nat.le_succ _) HLEN.out) (HBS.out _ (by repeat (first | exact Below.refl _ _ | assumption | refine bel_drew ?_ | refine bel_drewN ?_ _ | refine bel_alloc ?_ _ | refine bel_set ?_ (by first | (dsimp only; omega) | (simp; done) | (simp; omega)) _ | refine bel_trans ?_ (by assumption)))) ?_; intro v1 x1 ho1 hb1 hg1; have r0 := World.grownBy.cell hg1 (a := ⟨wr.heap.size, 0, none⟩) (v := .int .i64 x) (by simp [go_sem]) (HNE.out _ (Nat.le_refl _)); have r1 := World.grownBy.cell hg1 (a := ⟨wr.heap.size, 1, none⟩) (v := .int .i64 m) (by simp [go_sem]) (HNE.out _ (Nat.le_refl _)); have hb1' := bel_trans' (show Below w.heap.size w _ from (by repeat (first | exact Below.refl _ _ | assumption | refine bel_drew ?_ | refine bel_drewN ?_ _ | refine bel_alloc ?_ _ | refine bel_set ?_ (by first | (dsimp only; omega) | (simp; done) | (simp; omega)) _ | refine bel_trans ?_ (by assumption)))) hb1 (Nat.le_refl _); replace ho1 := Lib.hid ho1; clear hg1 hb1)
          refine (KA.out _).mono ?_
          rintro e w6 ⟨rfl, rfl⟩
          dsimp only
          go_wp2_with fail
          go_roundw
          case rel => exact ⟨k + 1, by omega, by go_num, by rw [ST.out]; exact (ho1.out.keep (by repeat (first | exact Below.refl _ _ | assumption | refine bel_drew ?_ | refine bel_drewN ?_ _ | refine bel_alloc ?_ _ | refine bel_set ?_ (by first | (dsimp only; omega) | (simp; done) | (simp; omega)) _ | refine bel_trans ?_ (by assumption)))), (by repeat (first | exact Below.refl _ _ | assumption | refine bel_drew ?_ | refine bel_drewN ?_ _ | refine bel_alloc ?_ _ | refine bel_set ?_ (by first | (dsimp only; omega) | (simp; done) | (simp; omega)) _ | refine bel_trans ?_ (by assumption)))⟩
          case measure => simp [intOf]; omega
        · by_cases hf2 : a2 < x + m
          · have ST : Hid (PS.cutL t true en (l.take (k + 1)) = (PS.cutL t true en (l.take k)) ++ [(x, b1 - x)] ++ [(a2, x + m - a2)]) := Lib.hid (by
              rw [st]
              rw [piece_yes hf1, if_pos rfl, piece_yes hf2]
              simp)
            have hx1 : x < t := by have := hlt1; exact this.1 hf1
            have hx2 : en < x + m := by rw [← ix] at hf2; split at hf2 <;> omega
            clear st hf1 hlt1
            clear hf2
            go_wp2_with (at_builtin; refine app_list2 rfl (.tmp 42) (.tmp 53) rfl w.heap.size _ (PS.cutL t true en (l.take k)) rfl (HO.out _ (by repeat (first | exact Below.refl _ _ | assumption | refine bel_drew ?_ | refine bel_drewN ?_ _ | refine bel_alloc ?_ _ | refine bel_set ?_ (by first | (dsimp only; omega) | (simp; done) | (simp; omega)) _ | refine bel_trans ?_ (by assumption)))) (some ⟨_, 0, none⟩) 1 1 [(x, b1 - x)] rfl (src_one (by simp [go_sem]) (by simp [go_sem])) (Nat.le_trans (Nat.le_succ _) HLEN.out) (HBS.out _ (by repeat (first | exact Below.refl _ _ | assumption | refine bel_drew ?_ | refine bel_drewN ?_ _ | refine bel_alloc ?_ _ | refine bel_set ?_ (by first | (dsimp only; omega) | (simp; done) | (simp; omega)) _ | refine bel_trans ?_ (by assumption)))) ?_; intro v1 x1 ho1 hb1 hg1; have r0 := World.grownBy.cell hg1 (a := ⟨wr.heap.size, 0, none⟩) (v := .int .i64 x) (by simp [go_sem]) (HNE.out _ (Nat.le_refl _)); have r1 := World.grownBy.cell hg1 (a := ⟨wr.heap.size, 1, none⟩) (v := .int .i64 m) (by simp [go_sem]) (HNE.out _ (Nat.le_refl _)); have hb1' := bel_trans' (show Below w.heap.size w _ from (by repeat (first | exact Below.refl _ _ | assumption | refine bel_drew ?_ | refine bel_drewN ?_ _ | refine bel_alloc ?_ _ | refine bel_set ?_ (by first | (dsimp only; omega) | (simp; done) | (simp; omega)) _ | refine bel_trans ?_ (by assumption)))) hb1 (Nat.le_refl _); replace ho1 := Lib.hid ho1; clear hg1 hb1)
            refine (KA.out _).mono ?_
            rintro e w6 ⟨rfl, rfl⟩
            dsimp only
            go_wp2_with (at_builtin; refine app_list2 rfl (.tmp 75) (.tmp 85) rfl w.heap.size _ ((PS.cutL t true en (l.take k)) ++ [(x, b1 - x)]) rfl (OwnS.keep ho1.out (bel_alloc (Below.refl _ _) _)) (some ⟨_, 0, none⟩) 1 1 [(a2, x + m - a2)] rfl (src_one (by simp [go_sem]) (by simp [go_sem])) (by have := HLEN.out; simp only [List.length_append, List.length_cons, List.length_nil]; omega) (Nat.le_trans hb1'.size (by first | (simp; done) | (simp; omega))) ?_; intro v2 x2 ho2 hb2 hg2; have hb2' := Lib.hid (bel_trans' (show Below w.heap.size w _ from (by repeat (first | exact Below.refl _ _ | assumption | refine bel_drew ?_ | refine bel_drewN ?_ _ | refine bel_alloc ?_ _ | refine bel_set ?_ (by first | (dsimp only; omega) | (simp; done) | (simp; omega)) _ | refine bel_trans ?_ (by assumption)))) hb2 (Nat.le_refl _)); replace ho2 := Lib.hid ho2; clear hg2 hb2)
            go_roundw
            case rel => exact ⟨k + 1, by omega, by go_num, by rw [ST.out]; exact ho2.out, hb2'.out⟩
            case measure => simp [intOf]; omega
          · have ST : Hid (PS.cutL t true en (l.take (k + 1)) = (PS.cutL t true en (l.take k)) ++ [(x, b1 - x)]) := Lib.hid (by
              rw [st]
              rw [piece_yes hf1]
              rw [if_pos rfl, piece_no hf2]
              simp)
            have hx1 : x < t := by have := hlt1; exact this.1 hf1
            have hx2 : x + m ≤ en := by rw [← ix] at hf2; split at hf2 <;> omega
            clear st hf1 hlt1
            clear hf2
            go_wp2_with (at_builtin; refine app_list2 rfl (.tmp 42) (.tmp 53) rfl w.heap.size _ (PS.cutL t true en (l.take k)) rfl (HO.out _ (by repeat (first | exact Below.refl _ _ | assumption | refine bel_drew ?_ | refine bel_drewN ?_ _ | refine bel_alloc ?_ _ | refine bel_set ?_ (by first | (dsimp only; omega) | (simp; done) | (simp; omega)) _ | refine bel_trans ?_ (by assumption)))) (some ⟨_, 0, none⟩) 1 1 [(x, b1 - x)] rfl (src_one (by simp [go_sem]) (by simp [go_sem])) (Nat.le_trans (Nat.le_succ _) HLEN.out) (HBS.out _ (by repeat (first | exact Below.refl _ _ | assumption | refine bel_drew ?_ | refine bel_drewN ?_ _ | refine bel_alloc ?_ _ | refine bel_set ?_ (by first | (dsimp only; omega) | (simp; done) | (simp; omega)) _ | refine bel_trans ?_ (by assumption)))) ?_; intro v1 x1 ho1 hb1 hg1; have r0 := World.grownBy.cell hg1 (a := ⟨wr.heap.size, 0, none⟩) (v := .int .i64 x) (by simp [go_sem]) (HNE.out _ (Nat.le_refl _)); have r1 := World.grownBy.cell hg1 (a := ⟨wr.heap.size, 1, none⟩) (v := .int .i64 m) (by simp [go_sem]) (HNE.out _ (Nat.le_refl _)); have hb1' := bel_trans' (show Below w.heap.size w _ from (by repeat (first | exact Below.refl _ _ | assumption | refine bel_drew ?_ | refine bel_drewN ?_ _ | refine bel_alloc ?_ _ | refine bel_set ?_ (by first | (dsimp only; omega) | (simp; done) | (simp; omega)) _ | refine bel_trans ?_ (by assumption)))) hb1 (Nat.le_refl _); replace ho1 := Lib.hid ho1; clear hg1 hb1)
            refine (KA.out _).mono ?_
            rintro e w6 ⟨rfl, rfl⟩
            dsimp only
            go_wp2_with fail
            go_roundw
            case rel => exact ⟨k + 1, by omega, by go_num, by rw [ST.out]; exact (ho1.out.keep (by repeat (first | exact Below.refl _ _ | assumption | refine bel_drew ?_ | refine bel_drewN ?_ _ | refine bel_alloc ?_ _ | refine bel_set ?_ (by first | (dsimp only; omega) | (simp; done) | (simp; omega)) _ | refine bel_trans ?_ (by assumption)))), (by repeat (first | exact Below.refl _ _ | assumption | refine bel_drew ?_ | refine bel_drewN ?_ _ | refine bel_alloc ?_ _ | refine bel_set ?_ (by first | (dsimp only; omega) | (simp; done) | (simp; omega)) _ | refine bel_trans ?_ (by assumption)))⟩
            case measure => simp [intOf]; omega
      · cases fits
        · have ST : Hid (PS.cutL t false en (l.take (k + 1)) = (PS.cutL t false en (l.take k))) := Lib.hid (by
            rw [st]
            rw [piece_no hf1]
            rw [if_neg (by simp)]
            simp)
          have hx1 : t ≤ x := by have := hlt1; omega
          clear st hf1 hlt1
          go_wp2_with fail
          refine (KA.out _).mono ?_
          rintro e w6 ⟨rfl, rfl⟩
          dsimp only
          go_wp2_with fail
          go_roundw
          case rel => exact ⟨k + 1, by omega, by go_num, by rw [ST.out]; exact (HO.out _ (by repeat (first | exact Below.refl _ _ | assumption | refine bel_drew ?_ | refine bel_drewN ?_ _ | refine bel_alloc ?_ _ | refine bel_set ?_ (by first | (dsimp only; omega) | (simp; done) | (simp; omega)) _ | refine bel_trans ?_ (by assumption)))), (by repeat (first | exact Below.refl _ _ | assumption | refine bel_drew ?_ | refine bel_drewN ?_ _ | refine bel_alloc ?_ _ | refine bel_set ?_ (by first | (dsimp only; omega) | (simp; done) | (simp; omega)) _ | refine bel_trans ?_ (by assumption)))⟩
          case measure => simp [intOf]; omega
        · by_cases hf2 : a2 < x + m
          · have ST : Hid (PS.cutL t true en (l.take (k + 1)) = (PS.cutL t true en (l.take k)) ++ [(a2, x + m - a2)]) := Lib.hid (by
              rw [st]
              rw [piece_no hf1, if_pos rfl, piece_yes hf2]
              simp)
            have hx1 : t ≤ x := by have := hlt1; omega
            have hx2 : en < x + m := by rw [← ix] at hf2; split at hf2 <;> omega
            clear st hf1 hlt1
            clear hf2
            go_wp2_with fail
            refine (KA.out _).mono ?_
            rintro e w6 ⟨rfl, rfl⟩
            dsimp only
            go_wp2_with (at_builtin; refine app_list2 rfl (.tmp 75) (.tmp 85) rfl w.heap.size _ ((PS.cutL t true en (l.take k))) rfl (HO.out _ (by repeat (first | exact Below.refl _ _ | assumption | refine bel_drew ?_ | refine bel_drewN ?_ _ | refine bel_alloc ?_ _ | refine bel_set ?_ (by first | (dsimp only; omega) | (simp; done) | (simp; omega)) _ | refine bel_trans ?_ (by assumption)))) (some ⟨_, 0, none⟩) 1 1 [(a2, x + m - a2)] rfl (src_one (by simp [go_sem]) (by simp [go_sem])) (Nat.le_trans (Nat.le_succ _) HLEN.out) (HBS.out _ (by repeat (first | exact Below.refl _ _ | assumption | refine bel_drew ?_ | refine bel_drewN ?_ _ | refine bel_alloc ?_ _ | refine bel_set ?_ (by first | (dsimp only; omega) | (simp; done) | (simp; omega)) _ | refine bel_trans ?_ (by assumption)))) ?_; intro v2 x2 ho2 hb2 hg2; have hb2' := Lib.hid (bel_trans' (show Below w.heap.size w _ from (by repeat (first | exact Below.refl _ _ | assumption | refine bel_drew ?_ | refine bel_drewN ?_ _ | refine bel_alloc ?_ _ | refine bel_set ?_ (by first | (dsimp only; omega) | (simp; done) | (simp; omega)) _ | refine bel_trans ?_ (by assumption)))) hb2 (Nat.le_refl _)); replace ho2 := Lib.hid ho2; clear hg2 hb2)
            go_roundw
            case rel => exact ⟨k + 1, by omega, by go_num, by rw [ST.out]; exact ho2.out, hb2'.out⟩
            case measure => simp [intOf]; omega
          · have ST : Hid (PS.cutL t true en (l.take (k + 1)) = (PS.cutL t true en (l.take k))) := Lib.hid (by
              rw [st]
              rw [piece_no hf1]
              rw [if_pos rfl, piece_no hf2]
              simp)
            have hx1 : t ≤ x := by have := hlt1; omega
            have hx2 : x + m ≤ en := by rw [← ix] at hf2; split at hf2 <;> omega
            clear st hf1 hlt1
            clear hf2
            go_wp2_with fail
            refine (KA.out _).mono ?_
            rintro e w6 ⟨rfl, rfl⟩
            dsimp only
            go_wp2_with fail
            go_roundw
            case rel => exact ⟨k + 1, by omega, by go_num, by rw [ST.out]; exact (HO.out _ (by repeat (first | exact Below.refl _ _ | assumption | refine bel_drew ?_ | refine bel_drewN ?_ _ | refine bel_alloc ?_ _ | refine bel_set ?_ (by first | (dsimp only; omega) | (simp; done) | (simp; omega)) _ | refine bel_trans ?_ (by assumption)))), (by repeat (first | exact Below.refl _ _ | assumption | refine bel_drew ?_ | refine bel_drewN ?_ _ | refine bel_alloc ?_ _ | refine bel_set ?_ (by first | (dsimp only; omega) | (simp; done) | (simp; omega)) _ | refine bel_trans ?_ (by assumption)))⟩
            case measure => simp [intOf]; omega
    · have htk : l.take k = l := List.take_of_length_le (by have := HLn.out; omega)
      have ho := hown.out
      rw [htk] at ho
      have hfin := HFIN.out _ _ ho hbel
      replace hfin := Lib.hid hfin
      replace hlt : (n : Int) ≤ k := by omega
      clear htk ho HO HLEN HNE hown
      go_wp2_with fail
      exact hfin.out

theorem spans_Cut_zero {A : Option Addr} {n : Nat} {l : List PS.Sp} {c : Nat} (t : Int) {w : World} (h : SpansAt w A n l) (hc : CapOk A n c) (hn : n ≤ 1000) (hr : PS.right l = true) (ht : 0 ≤ t) :
    Calls Try.prog 66 #[.slice A n c, .int .i64 t, .int .i64 0] w (GivesL w n l true) := by
  have K := spans_Right c h
  rw [hr] at K
  have KC : ∀ W, Below w.heap.size w W → Calls Try.prog 80 #[.slice A n c] W (GivesS1 W l) := fun W hW => by
    rcases A with _ | ⟨b, off, sp⟩
    · obtain ⟨c1, c2, c3, c4⟩ := hc
      obtain rfl := c3 rfl
      obtain rfl : n = 0 := by omega
      obtain rfl := List.eq_nil_of_length_eq_zero h.1
      exact spans_Clone_nil 0 W
    · have e := hc.2.2.2 _ rfl
      dsimp only at e
      subst e
      exact spans_Clone_some b off n c l W (h.keep hW) (by omega)
  have HG : ∀ v w1 w', GivesS1 w1 l (.returned v) w' → Below w.heap.size w w1 → GivesL w n l true (.returned (.tuple #[v, .bool true])) w' := fun v w1 w' hg hb => by
    obtain ⟨v', e, ho, hb'⟩ := hg
    obtain rfl : v = v' := by simpa using e
    obtain ⟨A', c', rfl, hs, hq⟩ := ho.val h.2.2.1
    rw [h.1] at hs hq ⊢
    exact ⟨A', c', rfl, hs, hq, bel_trans hb hb'⟩
  replace HG := Lib.hid HG
  replace KC := Lib.hid KC
  replace K := Lib.hid K
  clear h hc hr
  go_enter Try.func66, Try.ntmps66
  go_wp2_with fail
  refine K.out.mono ?_
  rintro e w1 ⟨rfl, h1⟩
  go_wp2_with fail
  refine (KC.out _ (by repeat (first | exact Below.refl _ _ | assumption | refine bel_drew ?_ | refine bel_drewN ?_ _ | refine bel_alloc ?_ _ | refine bel_set ?_ (by first | (dsimp only; omega) | (simp; done) | (simp; omega)) _ | refine bel_trans ?_ (by assumption)))).mono ?_
  rintro e w2 hg
  obtain ⟨v, rfl⟩ : ∃ v, e = .returned v := by obtain ⟨v, e, -⟩ := hg; exact ⟨v, e⟩
  have hfin := HG.out _ _ _ hg h1
  replace hfin := Lib.hid hfin
  clear hg
  go_wp2_with fail
  go_ret2
  exact hfin.out

theorem spans_Cut_empty (A : Option Addr) (c : Nat) (t q : Int) (w : World) (ht : 0 ≤ t ∧ t ≤ 9223372036854775807) (hq : 0 < q ∧ q ≤ 9223372036854775807) :
    Calls Try.prog 66 #[.slice A 0 c, .int .i64 t, .int .i64 q] w (GivesL w 0 [] true) := by
  have K := spans_Right c (SpansAt.nil (A := A) (w := w))
  rw [show PS.right [] = true from rfl] at K
  have KA := fun W => num_Add t q W (by omega) (by omega)
  have HG : ∀ w', Below w.heap.size w w' → GivesL w 0 [] true (.returned (.tuple #[.slice none 0 0, .bool true])) w' := fun w' hb => ⟨none, 0, rfl, SpansAt.nil, ⟨Nat.le_refl _, by omega, fun _ => rfl, fun ad e => by simp at e⟩, hb⟩
  replace HG := Lib.hid HG
  generalize (PN.add t q).1 = en at *
  generalize (PN.add t q).2 = fits at *
  replace K := Lib.hid K
  replace KA := Lib.hid KA
  obtain ⟨t1, t2⟩ := ht
  obtain ⟨q1, q2⟩ := hq
  have hq0 : (q == 0) = false := by simp; omega
  go_enter Try.func66, Try.ntmps66
  go_wp2_with fail
  refine K.out.mono ?_
  rintro e w1 ⟨rfl, h1⟩
  go_wp2_with fail
  refine (KA.out _).mono ?_
  rintro e w2 ⟨rfl, rfl⟩
  dsimp only
  go_wp2_with fail
  refine wp_loop_rounds 1 ?_
  rw [rounds_succ]
  go_wp2_with fail
  go_ret2
  exact HG.out _ (by repeat (first | exact Below.refl _ _ | assumption | refine bel_drew ?_ | refine bel_drewN ?_ _ | refine bel_alloc ?_ _ | refine bel_set ?_ (by first | (dsimp only; omega) | (simp; done) | (simp; omega)) _ | refine bel_trans ?_ (by assumption)))

def cutB (l : List PS.Sp) (t q : Int) : Bool := PS.right l && decide (0 ≤ t) && decide (0 ≤ q)
def cutV (l : List PS.Sp) (t q : Int) : List PS.Sp := if cutB l t q = true then (if q = 0 then l else PS.cutL t (PN.add t q).2 (PN.add t q).1 l) else []
theorem add_pos {t q : Int} (ht : 0 ≤ t) (hq : 0 ≤ q) : 0 ≤ (PN.add t q).1 ∧ (PN.add t q).1 ≤ 9223372036854775807 := by
  have := PN.add_range t q
  unfold PN.add at *
  split <;> simp_all <;> omega

theorem spans_Cut {A : Option Addr} {n : Nat} {l : List PS.Sp} {c : Nat} (t q : Int) {w : World} (h : SpansAt w A n l) (hc : CapOk A n c) (hn : n ≤ 1000) (ht : -9223372036854775808 ≤ t ∧ t ≤ 9223372036854775807) (hq : -9223372036854775808 ≤ q ∧ q ≤ 9223372036854775807) :
    Calls Try.prog 66 #[.slice A n c, .int .i64 t, .int .i64 q] w (GivesL w (cutV l t q).length (cutV l t q) (cutB l t q)) := by
  unfold cutV
  rcases hb : cutB l t q with _ | _
  · rw [if_neg (by simp)]
    refine spans_Cut_no c t q h ?_
    unfold cutB at hb
    rcases h1 : PS.right l with _ | _
    · exact .inl rfl
    · rw [h1] at hb; simp at hb; omega
  · rw [if_pos rfl]
    obtain ⟨g1, g2, g3⟩ : PS.right l = true ∧ 0 ≤ t ∧ 0 ≤ q := by unfold cutB at hb; simp at hb; exact ⟨hb.1.1, hb.1.2, hb.2⟩
    by_cases hq0 : q = 0
    · subst hq0
      rw [if_pos rfl, h.1]
      exact spans_Cut_zero t h hc hn g1 g2
    · rw [if_neg hq0]
      by_cases h0 : 0 < n
      · obtain ⟨b, off, rfl, -, -⟩ := h.2.2.2 h0
        exact spans_Cut_some b off n c l t q _ _ w h hn g1 ⟨g2, ht.2⟩ ⟨by omega, hq.2⟩ rfl (add_pos g2 g3)
      · obtain rfl : n = 0 := by omega
        obtain rfl := List.eq_nil_of_length_eq_zero h.1
        exact spans_Cut_empty A c t q w ⟨g2, ht.2⟩ ⟨by omega, hq.2⟩

theorem ref08_Cut_zero {A : Option Addr} {n : Nat} {l : List PS.Sp} {c : Nat} (t : Int) {w : World} (h : SpansAt w A n l) (hc : CapOk A n c) (hn : n ≤ 1000) (hr : PS.right l = true) (ht : 0 ≤ t) :
    Calls Try.prog 67 #[.slice A n c, .int .i64 t, .int .i64 0] w (GivesL w n l true) := by
  have K := ref08_Right c h
  rw [hr] at K
  have HG : ∀ w', Below w.heap.size w w' → GivesL w n l true (.returned (.tuple #[.slice A n c, .bool true])) w' := fun w' hb => ⟨A, c, rfl, h.keep hb, hc, hb⟩
  replace HG := Lib.hid HG
  replace K := Lib.hid K
  clear h hc hr
  go_enter Try.func67, Try.ntmps67
  go_wp2_with fail
  refine K.out.mono ?_
  rintro e w1 ⟨rfl, h1⟩
  go_wp2_with fail
  go_ret2
  exact HG.out _ (by repeat (first | exact Below.refl _ _ | assumption | refine bel_drew ?_ | refine bel_drewN ?_ _ | refine bel_alloc ?_ _ | refine bel_set ?_ (by first | (dsimp only; omega) | (simp; done) | (simp; omega)) _ | refine bel_trans ?_ (by assumption)))

theorem ref08_Cut_empty (A : Option Addr) (c : Nat) (t q : Int) (w : World) (ht : 0 ≤ t ∧ t ≤ 9223372036854775807) (hq : 0 < q ∧ q ≤ 9223372036854775807) :
    Calls Try.prog 67 #[.slice A 0 c, .int .i64 t, .int .i64 q] w (GivesL w 0 [] true) := by
  have K := ref08_Right c (SpansAt.nil (A := A) (w := w))
  rw [show PS.right [] = true from rfl] at K
  have KA := fun W => ref01_Add t q W (by omega) (by omega)
  have HG : ∀ w', Below w.heap.size w w' → GivesL w 0 [] true (.returned (.tuple #[.slice none 0 0, .bool true])) w' := fun w' hb => ⟨none, 0, rfl, SpansAt.nil, ⟨Nat.le_refl _, by omega, fun _ => rfl, fun ad e => by simp at e⟩, hb⟩
  replace HG := Lib.hid HG
  generalize (PN.add t q).1 = en at *
  generalize (PN.add t q).2 = fits at *
  replace K := Lib.hid K
  replace KA := Lib.hid KA
  obtain ⟨t1, t2⟩ := ht
  obtain ⟨q1, q2⟩ := hq
  have hq0 : (q == 0) = false := by simp; omega
  go_enter Try.func67, Try.ntmps67
  go_wp2_with fail
  refine K.out.mono ?_
  rintro e w1 ⟨rfl, h1⟩
  go_wp2_with fail
  refine wp_loop_rounds 1 ?_
  rw [rounds_succ]
  go_wp2_with fail
  go_ret2
  exact HG.out _ (by repeat (first | exact Below.refl _ _ | assumption | refine bel_drew ?_ | refine bel_drewN ?_ _ | refine bel_alloc ?_ _ | refine bel_set ?_ (by first | (dsimp only; omega) | (simp; done) | (simp; omega)) _ | refine bel_trans ?_ (by assumption)))

theorem ref08_Cut {A : Option Addr} {n : Nat} {l : List PS.Sp} {c : Nat} (t q : Int) {w : World} (h : SpansAt w A n l) (hc : CapOk A n c) (hn : n ≤ 1000) (ht : -9223372036854775808 ≤ t ∧ t ≤ 9223372036854775807) (hq : -9223372036854775808 ≤ q ∧ q ≤ 9223372036854775807) :
    Calls Try.prog 67 #[.slice A n c, .int .i64 t, .int .i64 q] w (GivesL w (cutV l t q).length (cutV l t q) (cutB l t q)) := by
  unfold cutV
  rcases hb : cutB l t q with _ | _
  · rw [if_neg (by simp)]
    refine ref08_Cut_no c t q h ?_
    unfold cutB at hb
    rcases h1 : PS.right l with _ | _
    · exact .inl rfl
    · rw [h1] at hb; simp at hb; omega
  · rw [if_pos rfl]
    obtain ⟨g1, g2, g3⟩ : PS.right l = true ∧ 0 ≤ t ∧ 0 ≤ q := by unfold cutB at hb; simp at hb; exact ⟨hb.1.1, hb.1.2, hb.2⟩
    by_cases hq0 : q = 0
    · subst hq0
      rw [if_pos rfl, h.1]
      exact ref08_Cut_zero t h hc hn g1 g2
    · rw [if_neg hq0]
      by_cases h0 : 0 < n
      · obtain ⟨b, off, rfl, -, -⟩ := h.2.2.2 h0
        exact ref08_Cut_some b off n c l t q _ _ w h hn g1 ⟨g2, ht.2⟩ ⟨by omega, hq.2⟩ rfl (add_pos g2 g3)
      · obtain rfl : n = 0 := by omega
        obtain rfl := List.eq_nil_of_length_eq_zero h.1
        exact ref08_Cut_empty A c t q w ⟨g2, ht.2⟩ ⟨by omega, hq.2⟩
end Go.Proofs.Ytfgfnfjeopjbgaa
