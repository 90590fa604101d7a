/-
  Layer 8 (spans): Merge.
-/
import Derived.Test.YtfgfnfjeopjbgaaSpanS
import Derived.Test.YtfgfnfjeopjbgaaPlainSpans6
import Derived.StillTailTactics
namespace Go.Proofs.Ytfgfnfjeopjbgaa
open Go.RowKit
set_option linter.unusedVariables false
set_option linter.unusedSimpArgs false
attribute [local go_sem] drewN_alloc drewN_setCell

theorem merge_bd {l : List PS.Sp} (hr : PS.right l = true) : ∀ s ∈ PS.mergeL l, SpBd s := by
  intro s hs
  have h := (PS.merge_right hr (k := l.length) (Nat.le_refl _)).1
  rw [PS.merge_all] at h
  obtain ⟨k, hk, rfl⟩ := List.mem_iff_getElem.1 hs
  have hw := (PS.whole_iff _).1 (PS.right_whole h hk)
  exact ⟨⟨by omega, by omega⟩, by omega, by omega⟩
theorem cellsS_set {out : List PS.Sp} {p : PS.Sp} {u : Int} : (cellsS (out ++ [p])).set (out.length * 2 + 1) (.int .i64 u) = cellsS (out ++ [(p.1, u)]) := by
  rw [cellsS_append, cellsS_append, List.set_append_right _ _ (by rw [cellsS_len]; omega), cellsS_len, cellsS_one, cellsS_one]
  have : out.length * 2 + 1 - out.length * 2 = 1 := by omega
  rw [this]
  rfl
/-- The last span of a row of the call's own, in memory; and what a store into it leaves. -/
theorem OwnS.last {B : Nat} {w : World} {v : Value} {out : List PS.Sp} {p : PS.Sp} (h : OwnS B w v (out ++ [p])) : ∃ g cap, v = .slice (some ⟨g, 0, none⟩) (out.length + 1) cap ∧ B ≤ g ∧ g < w.heap.size ∧
    w.cell? ⟨g, out.length * 2, none⟩ = some (.int .i64 p.1) ∧ w.cell? ⟨g, out.length * 2 + 1, none⟩ = some (.int .i64 p.2) ∧ w.frozen? ⟨g, out.length * 2 + 1, none⟩ = false ∧
    ∀ w' u, OwnS B w' v (out ++ [p]) → OwnS B (w'.setCell ⟨g, out.length * 2 + 1, none⟩ (.int .i64 u)) v (out ++ [(p.1, u)]) := by
  have hl : (out ++ [p]).length = out.length + 1 := by simp
  have hh := h
  rcases h.2 with ⟨-, e⟩ | ⟨g, cap, cur, rfl, hb, hg, -⟩
  · rw [hl] at e; omega
  · have hlt : g < w.heap.size := by
      rcases Nat.lt_or_ge g w.heap.size with hl | hge
      · exact hl
      · rw [Array.getElem?_eq_none hge] at hg; cases hg
    have hat := fun j hj => World.ownsRow.cellAt (w := w) (base := B) (e := 37) (size := 2) hh j hj
    have hcs := cellsS_get (l := out ++ [p]) (k := out.length) (by simp)
    have hgd : (out ++ [p]).getD out.length (0, 0) = p := by simp [List.getD]
    rw [hgd] at hcs
    refine ⟨g, cap, by rw [hl], hb, hlt, ?_, ?_, World.ownsRow.frozenAt (w := w) (base := B) (e := 37) (size := 2) hh _, fun w' u h' => ?_⟩
    · rw [hat _ (by rw [hl]; omega)]; exact hcs.1
    · rw [hat _ (by rw [hl]; omega)]; exact hcs.2
    · have h2 := (World.ownsRow.stored (w := w') (base := B) (e := 37) (size := 2) h' (out.length * 2 + 1) (.int .i64 u)).1
      rw [cellsS_set] at h2
      unfold OwnS
      have e2 : (out ++ [(p.1, u)]).length = (out ++ [p]).length := by simp
      rw [e2]
      exact h2

theorem spans_Merge_no {A : Option Addr} {n : Nat} {l : List PS.Sp} (c : Nat) {w : World} (h : SpansAt w A n l) (hr : PS.right l = false) :
    Calls Try.prog 64 #[.slice A n c] w (GivesL w 0 [] false) := by
  have K := spans_Right c h
  have HG : ∀ w', Below w.heap.size w w' → GivesL w 0 [] false (.returned (.tuple #[.slice none 0 0, .bool false])) w' := fun w' hb => ⟨none, 0, rfl, SpansAt.nil, ⟨Nat.le_refl _, by omega, fun _ => rfl, fun ad e => by simp at e⟩, hb⟩
  replace HG := Lib.hid HG
  rw [hr] at K
  replace K := Lib.hid K
  clear h hr
  go_enter Try.func64, Try.ntmps64
  go_wp2_with fail
  refine K.out.mono ?_
  rintro e w5 ⟨rfl, h5⟩
  go_wp2_with fail
  go_ret2
  exact HG.out _ (by repeat (first | exact Below.refl _ _ | assumption | refine bel_drew ?_ | refine bel_drewN ?_ _ | refine bel_alloc ?_ _ | refine bel_set ?_ (by first | (dsimp only; omega) | (simp; done) | (simp; omega)) _ | refine bel_trans ?_ (by assumption)))
theorem spans_Merge_empty (A : Option Addr) (c : Nat) (w : World) :
    Calls Try.prog 64 #[.slice A 0 c] w (GivesL w 0 [] true) := by
  have K := spans_Right c (SpansAt.nil (A := A) (w := w))
  rw [show PS.right [] = true from rfl] at K
  have HG : ∀ w', Below w.heap.size w w' → GivesL w 0 [] true (.returned (.tuple #[.slice none 0 0, .bool true])) w' := fun w' hb => ⟨none, 0, rfl, SpansAt.nil, ⟨Nat.le_refl _, by omega, fun _ => rfl, fun ad e => by simp at e⟩, hb⟩
  replace HG := Lib.hid HG
  replace K := Lib.hid K
  go_enter Try.func64, Try.ntmps64
  go_wp2_with fail
  refine K.out.mono ?_
  rintro e w1 ⟨rfl, h1⟩
  go_wp2_with fail
  refine wp_loop_rounds 1 ?_
  rw [rounds_succ]
  go_wp2_with fail
  go_ret2
  exact HG.out _ (by repeat (first | exact Below.refl _ _ | assumption | refine bel_drew ?_ | refine bel_drewN ?_ _ | refine bel_alloc ?_ _ | refine bel_set ?_ (by first | (dsimp only; omega) | (simp; done) | (simp; omega)) _ | refine bel_trans ?_ (by assumption)))

def MergeRel (w : World) (l : List PS.Sp) (n : Nat) (out i : Value) (wr : World) : Prop :=
  ∃ k : Nat, k ≤ n ∧ i = .int .i64 k ∧ (k = 0 → out = .slice none 0 0) ∧ OwnS w.heap.size wr out (PS.mergeL (l.take k)) ∧ Below w.heap.size w wr

set_option maxRecDepth 100000 in
set_option maxHeartbeats 16000000 in
theorem spans_Merge_some (b off n c : Nat) (l : List PS.Sp) (w : World) (h : SpansAt w (some ⟨b, off, none⟩) n l) (hn : n ≤ 1000) (hr : PS.right l = true) :
    Calls Try.prog 64 #[.slice (some ⟨b, off, none⟩) n c] w (GivesL w (PS.mergeL l).length (PS.mergeL l) true) := by
  have K := spans_Right c h
  rw [hr] at K
  have HLn := h.1
  have HFIN : Hid (∀ v w', OwnS w.heap.size w' v (PS.mergeL l) → Below w.heap.size w w' → GivesL w (PS.mergeL l).length (PS.mergeL l) true (.returned (.tuple #[v, .bool true])) w') := Lib.hid (fun v w' ho hb => by
    obtain ⟨A, c', rfl, hs, hc⟩ := ho.val (merge_bd hr)
    exact ⟨A, c', rfl, hs, hc, hb⟩)
  obtain ⟨PO, hPO⟩ : ∃ PO, GivesL w (PS.mergeL l).length (PS.mergeL l) true = PO := ⟨_, rfl⟩
  rw [hPO] at HFIN ⊢
  have H' := Lib.hid h
  replace K := Lib.hid K
  replace HLn := Lib.hid HLn
  replace hr := Lib.hid hr
  clear h hPO
  go_enter Try.func64, Try.ntmps64
  go_wp2_with fail
  refine K.out.mono ?_
  rintro e w1 ⟨rfl, h1⟩
  go_wp2_with fail
  go_loopw [4, 13] (fun out i wr => MergeRel w l n out i wr) (fun _ i _ => n - (intOf i).toNat)
  case atStart => exact ⟨0, Nat.zero_le _, rfl, fun _ => rfl, OwnS.nil _ _, (by repeat (first | exact Below.refl _ _ | assumption | refine bel_drew ?_ | refine bel_drewN ?_ _ | refine bel_alloc ?_ _ | refine bel_set ?_ (by first | (dsimp only; omega) | (simp; done) | (simp; omega)) _ | refine bel_trans ?_ (by assumption)))⟩
  case round =>
    obtain ⟨k, hk, rfl, h00, hown, hbel⟩ := hrel
    have j1 : (0 : Int) ≤ (k : Int) := by omega
    have HBS : Hid (∀ W, Below wr.heap.size wr W → w.heap.size ≤ W.heap.size) := Lib.hid (fun W hW => Nat.le_trans hbel.size hW.size)
    by_cases hlt : (k : Int) < n
    · have hkl : k < l.length := by have := HLn.out; omega
      obtain ⟨x, m, hs, x0, x1, bx1, bm1⟩ := H'.out.row hbel (k := k) (by omega)
      have hw := (PS.whole_iff _).1 (PS.right_whole hr.out hkl)
      have st := PS.merge_step hkl
      rw [hs hkl] at hw st
      dsimp only at hw
      obtain ⟨g1, g2, g3⟩ := hw
      clear hs
      by_cases hk0 : k = 0
      · subst hk0
        obtain rfl := h00 rfl
        rw [show PS.mergeL (l.take 0) = [] from rfl, PS.stepM_nil] at st
        replace st := Lib.hid st
        simp only [Nat.zero_mul, Nat.add_zero] at x0 x1
        rw [show ((0 : Nat) : Int) = 0 from rfl]
        have jn : (0 : Int) < n := by omega
        have jn0 : 0 < n := by omega
        clear h00 hown
        go_wp2_with fail
        go_quiet (fail)
        go_wp2_with (at_builtin; refine app_list2 rfl (.tmp 48) (.tmp 50) rfl w.heap.size _ [] rfl (OwnS.nil _ _) (some ⟨_, 0, none⟩) 1 1 [(x, m)] rfl (src_one (by simp [go_sem]) (by simp [go_sem])) (by simp) (HBS.out _ (by repeat (first | exact Below.refl _ _ | assumption | refine bel_drew ?_ | refine bel_drewN ?_ _ | refine bel_alloc ?_ _ | refine bel_set ?_ (by first | (dsimp only; omega) | (simp; done) | (simp; omega)) _ | refine bel_trans ?_ (by assumption)))) ?_; intro v1 w2 ho1 hb1 hg1; have hb1' := bel_trans' (show Below w.heap.size w _ from (by repeat (first | exact Below.refl _ _ | assumption | refine bel_drew ?_ | refine bel_drewN ?_ _ | refine bel_alloc ?_ _ | refine bel_set ?_ (by first | (dsimp only; omega) | (simp; done) | (simp; omega)) _ | refine bel_trans ?_ (by assumption)))) hb1 (Nat.le_refl _); replace ho1 := Lib.hid ho1; clear hg1 hb1)
        go_roundw
        case rel => exact ⟨1, by omega, rfl, (fun e => absurd e (by omega)), by rw [st.out]; exact ho1.out, hb1'⟩
        case measure => first | (simp [intOf]; done) | (simp [intOf]; omega)
      · obtain ⟨out, p, e, ef, p1, p2, p3⟩ := PS.merge_last hr.out (k := k) (by omega) (by omega)
        have eb := PS.endOf_bd (PS.right_take hr.out k)
        rw [← ef] at eb
        rw [e] at hown st
        obtain ⟨g, cap, rfl, hgB, hglt, y0, y1, fz, hset⟩ := hown.last
        obtain ⟨px, py⟩ := p
        unfold PS.fin at eb ef
        dsimp only at y0 y1 p1 p2 eb hset
        obtain ⟨e1, e2⟩ := eb
        have HNE : Hid (∀ q, wr.heap.size ≤ q → some q ≠ Value.ownBlock (.slice (some ⟨g, 0, none⟩) (out.length + 1) cap)) := Lib.hid (fun q hq => own_ne hown hq)
        have HO : Hid (∀ W, Below wr.heap.size wr W → OwnS w.heap.size W (.slice (some ⟨g, 0, none⟩) (out.length + 1) cap) (out ++ [(px, py)])) := Lib.hid (fun W hW => hown.keep hW)
        have HLEN : Hid ((out ++ [(px, py)]).length + 1 ≤ 1048576) := Lib.hid (by simp; omega)
        obtain ⟨o, ho⟩ : ∃ o, out.length = o := ⟨_, rfl⟩
        rw [ho] at y0 y1 fz hset HNE HO
        rw [ho]
        have jo : o ≤ 1000 := by omega
        have jo1 : (o : Int) ≤ 1000 := by omega
        have jo2 : (0 : Int) ≤ (o : Int) := by omega
        have jo3 : (0 : Int) ≤ (o : Int) + 1 := by omega
        have jo4 : o < o + 1 := by omega
        have jo5 : (o : Int) < (o : Int) + 1 := by omega
        have hset' := Lib.hid hset
        have hgs : wr.heap.size ≠ g := by omega
        have hgs2 : ¬ g = wr.heap.size := by omega
        clear h00 hown hk0 e ef ho hset
        have HGL := Lib.hid hglt
        have z0 := cell_alloc (.cells #[.int .i64 x, .int .i64 m] 37) hglt y0
        have z1 := cell_alloc (.cells #[.int .i64 x, .int .i64 m] 37) hglt y1
        have zf := frozen_alloc (.cells #[.int .i64 x, .int .i64 m] 37) hglt fz
        by_cases hf : px + py = x
        · rw [PS.stepM_yes (by exact hf)] at st
          replace st := Lib.hid st
          have hfq : (px + py == x) = true := by simpa using hf
          have b3 : py + m ≤ 9223372036854775807 := by omega
          have b4 : 0 ≤ py + m := by omega
          replace hf := Lib.hid hf
          go_wp2_with fail
          go_quiet (fail)
          go_wp2_with fail
          refine region_name ?_
          intro W hW
          have c1 : W.cell? ⟨g, o * 2 + 1, none⟩ = some (.int .i64 py) := by rw [hW]; exact z1
          have c2 : W.cell? ⟨wr.heap.size, 0, none⟩ = some (.int .i64 x) := by rw [hW]; simp [go_sem]
          have c3 : W.cell? ⟨wr.heap.size, 1, none⟩ = some (.int .i64 m) := by rw [hW]; simp [go_sem]
          have cf : W.frozen? ⟨g, o * 2 + 1, none⟩ = false := by rw [hW]; exact zf
          have hOW : OwnS w.heap.size W _ (out ++ [(px, py)]) := HO.out W (by rw [hW]; exact (by repeat (first | exact Below.refl _ _ | assumption | refine bel_drew ?_ | refine bel_drewN ?_ _ | refine bel_alloc ?_ _ | refine bel_set ?_ (by first | (dsimp only; omega) | (simp; done) | (simp; omega)) _ | refine bel_trans ?_ (by assumption))))
          have hBW : Below w.heap.size w W := by rw [hW]; exact (by repeat (first | exact Below.refl _ _ | assumption | refine bel_drew ?_ | refine bel_drewN ?_ _ | refine bel_alloc ?_ _ | refine bel_set ?_ (by first | (dsimp only; omega) | (simp; done) | (simp; omega)) _ | refine bel_trans ?_ (by assumption)))
          have hsW : W.heap.size = wr.heap.size + 1 := by rw [hW]; simp
          have hcd : ∀ a, ({ heap := W.heap, tape := W.tape, drawn := W.drawn + 1, os := W.os, output := W.output } : World).cell? a = W.cell? a := fun _ => rfl
          have hcf : ∀ a, ({ heap := W.heap, tape := W.tape, drawn := W.drawn + 1, os := W.os, output := W.output } : World).frozen? a = W.frozen? a := fun _ => rfl
          replace hOW := Lib.hid hOW
          replace hBW := Lib.hid hBW
          clear hW z0 z1 zf y0 y1 fz
          go_still_tail 10, (by kernel_rfl)
          go_wp2_with fail
          go_roundw
          case rel => exact ⟨k + 1, by omega, by go_num, (fun e => absurd e (by omega)), by rw [st.out]; first | exact hset'.out _ _ hOW.out | exact hset'.out _ _ (hOW.out.keep (bel_drew (Below.refl _ _))) | exact (hset'.out W _ hOW.out).keep (bel_drew (Below.refl _ _)), by first | exact bel_set (bel_drew hBW.out) hgB _ | exact bel_drew (bel_set hBW.out hgB _)⟩
          case measure => simp [intOf]; omega
        · rw [PS.stepM_no (by exact hf)] at st
          replace st := Lib.hid st
          have hfq : (px + py == x) = false := by simpa using hf
          replace hf := Lib.hid hf
          go_wp2_with fail
          go_quiet (fail)
          go_wp2_with (at_builtin; refine app_list2 rfl (.tmp 48) (.tmp 50) rfl w.heap.size _ (out ++ [(px, py)]) rfl (HO.out _ (by repeat (first | exact Below.refl _ _ | assumption | refine bel_drew ?_ | refine bel_drewN ?_ _ | refine bel_alloc ?_ _ | refine bel_set ?_ (by first | (dsimp only; omega) | (simp; done) | (simp; omega)) _ | refine bel_trans ?_ (by assumption)))) (some ⟨_, 0, none⟩) 1 1 [(x, m)] rfl (src_one (by simp [go_sem]) (by simp [go_sem])) HLEN.out (HBS.out _ (by repeat (first | exact Below.refl _ _ | assumption | refine bel_drew ?_ | refine bel_drewN ?_ _ | refine bel_alloc ?_ _ | refine bel_set ?_ (by first | (dsimp only; omega) | (simp; done) | (simp; omega)) _ | refine bel_trans ?_ (by assumption)))) ?_; intro v1 w2 ho1 hb1 hg1; have hb1' := bel_trans' (show Below w.heap.size w _ from (by repeat (first | exact Below.refl _ _ | assumption | refine bel_drew ?_ | refine bel_drewN ?_ _ | refine bel_alloc ?_ _ | refine bel_set ?_ (by first | (dsimp only; omega) | (simp; done) | (simp; omega)) _ | refine bel_trans ?_ (by assumption)))) hb1 (Nat.le_refl _); replace ho1 := Lib.hid ho1; clear hg1 hb1)
          go_roundw
          case rel => exact ⟨k + 1, by omega, by go_num, (fun e => absurd e (by omega)), by rw [st.out]; exact ho1.out, hb1'⟩
          case measure => simp [intOf]; omega
    · have htk : l.take k = l := List.take_of_length_le (by have := HLn.out; omega)
      rw [htk] at hown
      have hfin := Lib.hid (HFIN.out _ _ hown hbel)
      replace hlt : (n : Int) ≤ k := by omega
      clear htk hown h00
      go_wp2_with fail
      exact hfin.out
end Go.Proofs.Ytfgfnfjeopjbgaa
