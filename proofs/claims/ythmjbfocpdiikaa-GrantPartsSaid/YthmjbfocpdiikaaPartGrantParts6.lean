/- Part 6 of the proof of GrantParts: lemmas, each with its conditions ahead of it. -/
import Derived.Test.YthmjbfocpdiikaaPartGrantParts5
import Derived.RangeFuncNested
import Derived.RangeFuncBound
import Derived.RangeFuncCalls
import Derived.RangeFuncLeaves
import Derived.WalkKit
import Derived.OwnWalkIn
import Derived.TacticsInMore
import Derived.LoopNIn
import Derived.LoopIn
import Derived.Test.YthmjbfocpdiikaaPartGrantParts3
import Derived.Laws.StructEq
import Derived.StillTailTactics
/-
  Layer 35 (grant): the grant of one ticket.
-/
namespace Go.Proofs.Ythmjbfocpdiikaa
open Go.RowKit
set_option linter.unusedVariables false
set_option linter.unusedSimpArgs false
attribute [local go_sem] drewN_alloc drewN_setCell


variable {w w' : World}
theorem cellsT_set4 (x : Int) : ∀ (l : List SK.Tick) (i : Nat), i < l.length → (cellsT l).set (i * 5 + 4) (.int .i64 x) = cellsT (l.set i ((l.getD i SK.t0).1, (l.getD i SK.t0).2.1, (l.getD i SK.t0).2.2.1, (l.getD i SK.t0).2.2.2.1, x))
  | [], _, h => absurd h (by simp)
  | t :: l, 0, _ => rfl
  | t :: l, i + 1, h => by
    rw [cellsT_cons, List.set_append_right _ _ (by show 5 ≤ _; omega), show (i + 1) * 5 + 4 - (ct t).length = i * 5 + 4 by show _ - 5 = _; omega, cellsT_set4 x l i (by simpa using h)]
    rfl
theorem OwnT.len {B g n c : Nat} {l : List SK.Tick} (h : OwnT B w (.slice (some ⟨g, 0, none⟩) n c) l) : l.length = n := by
  rcases h.2 with ⟨e, _⟩ | ⟨g', cap, cur, e, _⟩
  · cases e
  · injection e with _ e2 _; exact e2.symm
theorem OwnT.set4 {B g n c i : Nat} {l : List SK.Tick} (h : OwnT B w (.slice (some ⟨g, 0, none⟩) n c) l) (hi : i < n) (x : Int) :
    OwnT B (w.setCell ⟨g, i * 5 + 4, none⟩ (.int .i64 x)) (.slice (some ⟨g, 0, none⟩) n c) (l.set i ((l.getD i SK.t0).1, (l.getD i SK.t0).2.1, (l.getD i SK.t0).2.2.1, (l.getD i SK.t0).2.2.2.1, x)) := by
  have hl := h.len
  subst hl
  have h2 := ownsRow_set h (k := i * 5 + 4) (by omega) (.int .i64 x)
  rw [cellsT_set4 x l i hi] at h2
  unfold OwnT
  rw [List.length_set]
  exact h2
/-- What is left behind i rounds. -/
def lbump (l : List SK.Tick) (i : Nat) : List SK.Tick := (l.take i).map GN.bump ++ l.drop i
theorem lbump_len (l : List SK.Tick) (i : Nat) : (lbump l i).length = l.length := by unfold lbump; rw [List.length_append, List.length_map, List.length_take, List.length_drop]; omega
theorem lbump_at {l : List SK.Tick} {i : Nat} (hi : i < l.length) : (lbump l i).getD i SK.t0 = l.getD i SK.t0 := by
  unfold lbump
  simp only [List.getD]
  rw [List.getElem?_append_right (by simp; omega)]
  simp [List.length_map, List.length_take, show min i l.length = i by omega]
theorem lbump_set {l : List SK.Tick} {i : Nat} (hi : i < l.length) : (lbump l i).set i (GN.bump (l.getD i SK.t0)) = lbump l (i + 1) := by
  unfold lbump
  have e0 : ((l.take i).map GN.bump).length = i := by rw [List.length_map, List.length_take]; omega
  have eg : l.getD i SK.t0 = l[i] := by simp [List.getD, hi]
  rw [List.set_append_right _ _ (by omega), e0, Nat.sub_self, List.drop_eq_getElem_cons hi, List.set_cons_zero, List.take_add_one, List.getElem?_eq_getElem hi, eg]
  simp only [Option.toList_some, List.map_append, List.map_cons, List.map_nil, List.append_assoc, List.cons_append, List.nil_append]
theorem lbump_stay {l : List SK.Tick} {i : Nat} (hi : i < l.length) (h : GN.bump (l.getD i SK.t0) = l.getD i SK.t0) : lbump l i = lbump l (i + 1) := by
  rw [← lbump_set hi, h, ← lbump_at hi]
  have hl : i < (lbump l i).length := by rw [lbump_len]; exact hi
  have eg : (lbump l i).getD i SK.t0 = (lbump l i)[i] := by simp [List.getD, hl]
  rw [eg, List.set_getElem_self]
theorem bump_bd {t : SK.Tick} (h : TickBd t) : TickBd (GN.bump t) := by
  unfold GN.bump
  split
  · exact ⟨h.1, h.2.1, h.2.2.1, h.2.2.2.1, by have := h.2.2.2.2.1; unfold Bd; dsimp only; omega⟩
  · exact h
/-- A result in memory. -/
structure ResAt (B : Nat) (w : World) (rb : Nat) (gr : List SK.Tick) (S : GN.St) (vg : Value) (bl bm c : Nat) : Prop where
  row : RowA w rb 56 [vg, .slice (some ⟨bl, 0, none⟩) S.left.length c, .slice (some ⟨bm, 0, none⟩) S.ms.length S.ms.length, .int .i64 S.free]
  own : OwnT B w vg gr
  left : OwnT B w (.slice (some ⟨bl, 0, none⟩) S.left.length c) S.left
  mem : RowA w bm 34 (cellsM S.ms)
  bt : ∀ t ∈ S.left, TickBd t
  bg : ∀ t ∈ gr, TickBd t
  bms : ∀ m ∈ S.ms, MemBd m
  bf : Bd S.free
  n1 : bl ≠ bm
  n2 : rb ≠ bl
  n3 : rb ≠ bm
  n4 : ∀ k, vg.ownBlock = some k → k ≠ bl ∧ k ≠ bm ∧ k ≠ rb
  b1 : B ≤ rb
  b2 : B ≤ bl
  b3 : B ≤ bm
  len : gr.length + S.left.length ≤ 1000
  lm : S.ms.length ≤ 1000
  bw : B ≤ w.heap.size
theorem ResAt.tick {B rb bl bm c : Nat} {gr : List SK.Tick} {S : GN.St} {vg : Value} (h : ResAt B w rb gr S vg bl bm c) : TickAt w (some ⟨bl, 0, none⟩) S.left.length S.left ∧ S.left.length ≤ c ∧ c ≤ 9223372036854775807 := by
  obtain ⟨A, c', e, h1, h2, h3⟩ := h.left.tick h.bt
  injection e with e1 e2 e3
  subst e1; subst e3
  exact ⟨h1, h2, h3⟩
theorem memAt_row {b : Nat} {l : List PO.Mem} (h : RowA w b 34 (cellsM l)) (hb : ∀ m ∈ l, MemBd m) (hl : l.length ≤ 1000) : MemAt w (some ⟨b, 0, none⟩) l.length l := by
  refine ⟨rfl, by omega, hb, fun h0 => ⟨b, 0, rfl, h.lt, fun i hi => ?_⟩⟩
  have key : ∀ r, r < 4 → w.cell? ⟨b, 0 + i * 4 + r, none⟩ = some (comp r (l.getD i PO.m0)) := fun r hr => by
    rw [h.cell, Nat.zero_add, cellsM_at l (by omega), show (i * 4 + r) % 4 = r by omega, show (i * 4 + r) / 4 = i by omega]
  exact ⟨key 0 (by omega), key 1 (by omega), key 2 (by omega), key 3 (by omega)⟩
theorem ResAt.members {B rb bl bm c : Nat} {gr : List SK.Tick} {S : GN.St} {vg : Value} (h : ResAt B w rb gr S vg bl bm c) : MemAt w (some ⟨bm, 0, none⟩) S.ms.length S.ms := memAt_row h.mem h.bms h.lm
/-- The blocks of a result. -/
def resOwn (rb bl bm : Nat) (vg : Value) (k : Nat) : Prop := k = rb ∨ k = bl ∨ k = bm ∨ vg.ownBlock = some k
theorem OwnT.chg {B : Nat} {own : Nat → Prop} {v : Value} {l : List SK.Tick} (h : OwnT B w v l) (hc : Chg own w w') (hn : ∀ k, v.ownBlock = some k → ¬ own k) : OwnT B w' v l := h.of_block (fun k e => hc.block k (h.ltB k e).2 (hn k e))
theorem ResAt.chg {B rb bl bm c : Nat} {gr : List SK.Tick} {S : GN.St} {vg : Value} {own : Nat → Prop} (h : ResAt B w rb gr S vg bl bm c) (hc : Chg own w w') (hn : ∀ k, resOwn rb bl bm vg k → ¬ own k) : ResAt B w' rb gr S vg bl bm c :=
  ⟨h.row.chg hc (hn _ (.inl rfl)), h.own.chg hc (fun k e => hn k (.inr (.inr (.inr e)))), h.left.chg hc (fun k e => hn k (.inr (.inl (by cases e; rfl)))), h.mem.chg hc (hn _ (.inr (.inr (.inl rfl)))), h.bt, h.bg, h.bms, h.bf, h.n1, h.n2, h.n3, h.n4, h.b1, h.b2, h.b3, h.len, h.lm, Nat.le_trans h.bw hc.size⟩
theorem ResAt.keep {B rb bl bm c : Nat} {gr : List SK.Tick} {S : GN.St} {vg : Value} (h : ResAt B w rb gr S vg bl bm c) (hb : Below w.heap.size w w') : ResAt B w' rb gr S vg bl bm c := h.chg (own := fun _ => False) (Chg.of_below hb) (fun _ _ e => e)
theorem grant_pred {b5 : Nat} {id : Int} (m : PO.Mem) (c1 : w.cell? ⟨b5, 1, none⟩ = some (.int .i64 id)) :
    Calls Try.prog 99 #[.agg #[.int .i64 m.1, .int .i64 m.2.1, .int .i64 m.2.2.1, .int .i64 m.2.2.2], .pointer (some ⟨b5, 0, none⟩)] w fun e w' => e = .returned (.bool (decide (m.1 = id))) ∧ Below w.heap.size w w' := by
  have sp := World.block_lt_of_cell? _ _ c1
  dsimp only at sp
  obtain ⟨V, hV⟩ : ∃ V, w.alloc (.cells #[.int .i64 m.1, .int .i64 m.2.1, .int .i64 m.2.2.1, .int .i64 m.2.2.2] 34) = V := ⟨_, rfl⟩
  have hbV : Below w.heap.size w V := by rw [← hV]; exact (by repeat (first | exact Below.refl _ _ | assumption | refine bel_drew ?_ | refine bel_drewN ?_ _ | refine bel_alloc ?_ _ | refine bel_set ?_ (by first | (dsimp only; omega) | (simp; done) | (simp; omega)) _ | refine bel_trans ?_ (by assumption)))
  have d1 := (hbV.cell (p := ⟨b5, 1, none⟩) sp).trans c1
  have dm : V.cell? ⟨w.heap.size, 0, none⟩ = some (.int .i64 m.1) := by rw [← hV]; simp [go_sem]
  replace hV := Lib.hid hV
  clear c1
  go_enter Try.func99, Try.ntmps99
  go_upto_region 1 with (fail)
  rw [hV.out]
  go_wp2_with fail
  exact bodyPost_ret (v := .bool (m.1 == id)) (by simp [results, Try.results99, go_sem]) rfl ⟨ret_bool (by rw [Bool.eq_iff_iff]; simp), hbV⟩
end Go.Proofs.Ythmjbfocpdiikaa
/-
  Layer 35 (grant): the walk of a grant.
-/
namespace Go.Proofs.Ythmjbfocpdiikaa
open Go.RowKit
set_option linter.unusedVariables false
set_option linter.unusedSimpArgs false
attribute [local go_sem] drewN_alloc drewN_setCell


variable {w w' : World}
theorem OwnT.at_ {B g n c i : Nat} {l : List SK.Tick} (h : OwnT B w (.slice (some ⟨g, 0, none⟩) n c) l) (hi : i < n) {r : Nat} (hr : r < 5) : w.cell? ⟨g, i * 5 + r, none⟩ = some (compT r (l.getD i SK.t0)) := by
  have hl := h.len
  subst hl
  rw [World.ownsRow.cellAt (w := w) (base := B) (e := 51) (size := 5) h (i * 5 + r) (by omega), cellsT_at l hr hi]
theorem OwnT.unfrozen {B g n c : Nat} {l : List SK.Tick} (h : OwnT B w (.slice (some ⟨g, 0, none⟩) n c) l) (i : Nat) : w.frozen? ⟨g, i, none⟩ = false := by
  rcases h.2 with ⟨e, _⟩ | ⟨g', cap, cur, e, _, hgg, _⟩
  · cases e
  · cases e
    simp [World.frozen?, hgg]
theorem region_nameL {P : Program} {c : Code} {Q : Exit → Act → World → Prop} {a : Act} {w : World} (h : ∀ W, W = w → c.wp P Q a W) : c.wp P Q a w := h w rfl
theorem bel_to {W0 u v : World} (h : Below W0.heap.size W0 u) (hb : Below u.heap.size u v) : Below W0.heap.size W0 v := bel_trans h hb
theorem set3_cell {W : World} {b k j i1 i2 i3 : Nat} {u : Value} (h : W.cell? ⟨k, j, none⟩ = some u) (hk : k ≠ b) (x y z : Value) : (((W.setCell ⟨b, i1, none⟩ x).setCell ⟨b, i2, none⟩ y).setCell ⟨b, i3, none⟩ z).cell? ⟨k, j, none⟩ = some u := by
  rw [World.cell?_setCell_far _ _ _ _ (fun e => hk e.symm), World.cell?_setCell_far _ _ _ _ (fun e => hk e.symm), World.cell?_setCell_far _ _ _ _ (fun e => hk e.symm)]
  exact h
theorem cellsM_set3 {l : List PO.Mem} {i : Nat} (hi : i < l.length) (x y z : Int) : (((cellsM l).set (i * 4 + 1) (.int .i64 x)).set (i * 4 + 1 + 1) (.int .i64 y)).set (i * 4 + 1 + 2) (.int .i64 z) = cellsM (l.set i ((l.getD i PO.m0).1, x, y, z)) := by
  apply List.ext_getElem?
  intro q
  rcases Nat.lt_or_ge q (l.length * 4) with h1 | h1
  · rw [cellsM_at (l.set i _) (by rw [List.length_set]; exact h1), SK.getD_set hi]
    have hl := cellsM_len l
    by_cases e3 : q = i * 4 + 1 + 2
    · subst e3
      rw [List.getElem?_set_self (by simp only [List.length_set]; omega), if_pos (by omega), show (i * 4 + 1 + 2) % 4 = 3 by omega]; rfl
    · rw [List.getElem?_set_ne (fun e => e3 e.symm)]
      by_cases e2 : q = i * 4 + 1 + 1
      · subst e2
        rw [List.getElem?_set_self (by simp only [List.length_set]; omega), if_pos (by omega), show (i * 4 + 1 + 1) % 4 = 2 by omega]; rfl
      · rw [List.getElem?_set_ne (fun e => e2 e.symm)]
        by_cases e1 : q = i * 4 + 1
        · subst e1
          rw [List.getElem?_set_self (by omega), if_pos (by omega), show (i * 4 + 1) % 4 = 1 by omega]; rfl
        · rw [List.getElem?_set_ne (fun e => e1 e.symm), cellsM_at l h1]
          by_cases e0 : q / 4 = i
          · have e4 : q % 4 = 0 := by omega
            rw [if_pos e0, e4, e0]; rfl
          · rw [if_neg e0]
  · rw [List.getElem?_eq_none (by simp only [List.length_set, cellsM_len]; exact h1), List.getElem?_eq_none (by rw [cellsM_len, List.length_set]; exact h1)]
theorem lbump_del {l : List SK.Tick} {j : Nat} (hj : j < l.length) : (lbump l j).take j ++ (lbump l j).drop (j + 1) = GN.gleft l j := by
  unfold lbump GN.gleft
  have e0 : ((l.take j).map GN.bump).length = j := by rw [List.length_map, List.length_take]; omega
  rw [List.take_append_of_le_length (by omega), List.take_of_length_le (by omega), List.drop_append, e0, List.drop_eq_nil_of_le (by omega), List.nil_append, show j + 1 - j = 1 by omega, List.drop_drop]
theorem app_operT {o : Oper} {a : Act} {K : Act → World → Prop} {Q : Exit → Act → World → Prop} (s x : Operand)
    (ho : o.op = .call { callee := .builtin .append, args := #[s, x], argTypes := #[43, 43] })
    (B : Nat) (v : Value) (l : List SK.Tick) (hsv : a.eval s = v) (hown : OwnT B w v l)
    (A : Option Addr) (m c : Nat) (l2 : List SK.Tick) (hx : a.eval x = .slice A m c) (hs : SrcS 5 w A m (cellsT l2)) (hlen : l.length + m ≤ 1048576) (hbase : B ≤ w.heap.size)
    (h : ∀ v' w', OwnT B w' v' (l ++ l2) → w.grownBy w' v.ownBlock → (v'.ownBlock = v.ownBlock ∨ v'.ownBlock = some w.heap.size) → K (a.put o.dst v') w') : o.wp Try.prog a w K Q := by
  obtain ⟨i, z, hi, hz, hsz, hby, hzs⟩ := infoTick
  refine wp_append_S w 5 (by decide) s x 43 ho B 51 i z 40 Try.underlying43 hi hz hsz hby hzs v l.length _ hsv hown A m c _ hx hs (cellsT_one l2) (by unfold maxLen; omega) (by omega) hbase (fun v' w' h2 h3 h4 => ?_)
  refine h v' w' ?_ h3 h4
  have hm : m = l2.length := by have := hs.1; rw [cellsT_len] at this; omega
  unfold OwnT
  rw [cellsT_append, List.length_append, ← hm]
  exact h2
theorem src_oneT {g : Nat} {t : SK.Tick} (h : RowA w g 51 (cellsT [t])) : SrcS 5 w (some ⟨g, 0, none⟩) 1 (cellsT [t]) := by
  refine ⟨by rw [cellsT_len]; rfl, fun e => by simp at e, fun ad e j u hu => ?_⟩
  obtain rfl : (⟨g, 0, none⟩ : Addr) = ad := by simpa using e
  rw [addr_addS, Nat.zero_add, h.cell]
  exact hu
theorem OwnT.form {B : Nat} {v : Value} {l : List SK.Tick} (h : OwnT B w v l) : ∃ A n c, v = .slice A n c := by
  rcases h.2 with ⟨e, _⟩ | ⟨g', cap, cur, e, _⟩
  · exact ⟨_, _, _, e⟩
  · exact ⟨_, _, _, e⟩
def BumpRel (B : Nat) (W0 : World) (bl n c k : Nat) (l : List SK.Tick) (i : Value) (wr : World) : Prop :=
  ∃ j : Nat, j ≤ k ∧ i = .int .i64 (j : Nat) ∧ OwnT B wr (.slice (some ⟨bl, 0, none⟩) n c) (lbump l j) ∧ Chg (fun q => q = bl) W0 wr
def GivesGrant (B rb bl bm c : Nat) (gr : List SK.Tick) (S : GN.St) (k : Nat) (vg : Value) (w : World) (e : Ending) (w' : World) : Prop :=
  e = .returned (.agg #[.int .i64 (GN.tk S k).1, .int .i64 (GN.tk S k).2.1, .int .i64 (GN.tk S k).2.2.1, .int .i64 2, .int .i64 (GN.tk S k).2.2.2.2]) ∧ ∃ vg', ResAt B w' rb (gr ++ [GN.gtold (GN.tk S k)]) (GN.step S k) vg' bl bm c ∧ Chg (resOwn rb bl bm vg) w w' ∧ ∀ j, vg'.ownBlock = some j → vg.ownBlock = some j ∨ w.heap.size ≤ j
set_option maxRecDepth 100000 in
set_option maxHeartbeats 16000000 in
theorem grant_grant {B rb bl bm c k : Nat} {gr : List SK.Tick} {S : GN.St} {vg : Value} {wt : Int} (h : ResAt B w rb gr S vg bl bm c) (hg : GN.Goes S wt k) :
    Calls Try.prog 89 #[.pointer (some ⟨rb, 0, none⟩), .int .i64 (k : Int)] w (GivesGrant B rb bl bm c gr S k vg w) := by
  obtain ⟨m, hm⟩ : ∃ m, S.left.length = k + m + 1 := ⟨S.left.length - k - 1, by have := hg.lt; omega⟩
  obtain ⟨mn, hmn⟩ : ∃ mn, S.ms.length = mn := ⟨_, rfl⟩
  obtain ⟨fr, hfr⟩ : ∃ fr, S.free = fr := ⟨_, rfl⟩
  have hrow : RowA w rb 56 [vg, .slice (some ⟨bl, 0, none⟩) (k + m + 1) c, .slice (some ⟨bm, 0, none⟩) mn mn, .int .i64 fr] := by have := h.row; rw [hm, hmn, hfr] at this; exact this
  have hleft : OwnT B w (.slice (some ⟨bl, 0, none⟩) (k + m + 1) c) S.left := by have := h.left; rw [hm] at this; exact this
  obtain ⟨a0, a1, a2, a3, a4, ht⟩ : ∃ a0 a1 a2 a3 a4, GN.tk S k = (a0, a1, a2, a3, a4) := ⟨_, _, _, _, _, rfl⟩
  have HT := Lib.hid ht
  have x0 := hleft.at_ (i := k) (r := 0) (by omega) (by omega)
  have x1 := hleft.at_ (i := k) (r := 1) (by omega) (by omega)
  have x2 := hleft.at_ (i := k) (r := 2) (by omega) (by omega)
  have x3 := hleft.at_ (i := k) (r := 3) (by omega) (by omega)
  have x4 := hleft.at_ (i := k) (r := 4) (by omega) (by omega)
  have et : S.left.getD k SK.t0 = (a0, a1, a2, a3, a4) := ht
  rw [et] at x0 x1 x2 x3 x4
  replace x0 : w.cell? ⟨bl, k * 5, none⟩ = some (.int .i64 a0) := x0
  replace x1 : w.cell? ⟨bl, k * 5 + 1, none⟩ = some (.int .i64 a1) := x1
  replace x2 : w.cell? ⟨bl, k * 5 + 2, none⟩ = some (.int .i64 a2) := x2
  replace x3 : w.cell? ⟨bl, k * 5 + 3, none⟩ = some (.int .i64 a3) := x3
  replace x4 : w.cell? ⟨bl, k * 5 + 4, none⟩ = some (.int .i64 a4) := x4
  have hkc : k + m + 1 ≤ c := by have := h.tick.2.1; omega
  have hc9 := h.tick.2.2
  have k0 : (0 : Int) ≤ (k : Int) := by omega
  have k1 : (k : Int) < (k : Int) + (m : Int) + 1 := by omega
  have k2 : (k : Int) ≤ (c : Int) := by omega
  have c0 := (hrow.cell 0).trans rfl
  have c1 := (hrow.cell 1).trans rfl
  have c2 := (hrow.cell 2).trans rfl
  have c3 := (hrow.cell 3).trans rfl
  have H := Lib.hid h
  have HG := Lib.hid hg
  have HROW := Lib.hid hrow
  have HLEFT := Lib.hid hleft
  have HM := Lib.hid hm
  have HMN := Lib.hid hmn
  have HFR := Lib.hid hfr
  have ltr : rb < w.heap.size := hrow.lt
  have ltl : bl < w.heap.size := (hleft.ltB bl rfl).2
  clear h hg hrow hleft hm hmn hfr ht et
  go_enter Try.func89, Try.ntmps89
  go_upto_region 3 with (fail)
  refine region_nameL ?_
  rintro W1 hW1
  obtain ⟨ws, hws⟩ : ∃ ws, w.heap.size = ws := ⟨_, rfl⟩
  have B1 : Below w.heap.size w W1 := by rw [hW1]; exact (by repeat (first | exact Below.refl _ _ | assumption | refine bel_drew ?_ | refine bel_drewN ?_ _ | refine bel_alloc ?_ _ | refine bel_set ?_ (by first | (dsimp only; omega) | (simp; done) | (simp; omega)) _ | refine bel_trans ?_ (by assumption)))
  have r4 : RowA W1 ws 51 [.int .i64 0, .int .i64 0, .int .i64 0, .int .i64 0, .int .i64 0] := by
    rw [hW1, ← hws]
    exact (RowA.new w 51 [.int .i64 0, .int .i64 0, .int .i64 0, .int .i64 0, .int .i64 0]).keep (bel_alloc (Below.refl _ _) _)
  have r5 : RowA W1 (ws + 1) 51 [.int .i64 a0, .int .i64 a1, .int .i64 a2, .int .i64 a3, .int .i64 a4] := by
    have := RowA.new (w.alloc (.cells #[.int .i64 0, .int .i64 0, .int .i64 0, .int .i64 0, .int .i64 0] 51)) 51 [.int .i64 a0, .int .i64 a1, .int .i64 a2, .int .i64 a3, .int .i64 a4]
    rw [hW1]; simpa [hws] using this
  rw [hws]
  have sW1 : ws + 2 ≤ W1.heap.size := r5.lt
  have HWS := Lib.hid hws
  have HB1 := Lib.hid B1
  have R4 := Lib.hid r4
  have R5 := Lib.hid r5
  have RW1 := Lib.hid (HROW.out.keep B1)
  have HB0 : Hid (BumpRel B W1 bl (k + m + 1) c k S.left (.int .i64 0) W1) := Lib.hid ⟨0, Nat.zero_le _, rfl, HLEFT.out.keep B1, Chg.refl _ _⟩
  rw [hws] at ltr ltl
  clear hW1 hws B1 r4 r5 c0 c1 c2 c3 x0 x1 x2 x3 x4
  have nrl : rb ≠ bl := H.out.n2
  go_loopw [6, 22] (fun _ i wr => BumpRel B W1 bl (k + m + 1) c k S.left i wr) (fun _ i _ => k - (intOf i).toNat)
  case atStart => exact HB0.out
  case round =>
    clear HB0
    obtain ⟨j, hj, rfl, ho, hc⟩ := hrel
    have HO := Lib.hid ho
    have HC := Lib.hid hc
    have rr := RW1.out.chg hc nrl
    have d0 := (rr.cell 0).trans rfl
    have d1 := (rr.cell 1).trans rfl
    have d2 := (rr.cell 2).trans rfl
    have d3 := (rr.cell 3).trans rfl
    have j0 : (0 : Int) ≤ (j : Int) := by omega
    clear hc
    by_cases hlt : j < k
    · have hltI : (j : Int) < (k : Int) := by omega
      have j1 : (j : Int) < (k : Int) + (m : Int) + 1 := by omega
      have hjl : j < S.left.length := by have := HM.out; omega
      have x4 := ho.at_ (i := j) (r := 4) (by omega) (by omega)
      have f4 := ho.unfrozen (j * 5 + 4)
      rw [lbump_at hjl] at x4
      obtain ⟨p, hp⟩ : ∃ p, (S.left.getD j SK.t0).2.2.2.2 = p := ⟨_, rfl⟩
      replace x4 : wr.cell? ⟨bl, j * 5 + 4, none⟩ = some (.int .i64 p) := by rw [← hp]; exact x4
      have wj : IntKind.i64.wrap ((j : Int) + 1) = (j : Int) + 1 := by rw [IntKind.wrap_i64]; omega
      have hbd : Bd p := by rw [← hp]; exact (H.out.bt _ (by rw [tick_getD hjl]; exact List.getElem_mem _)).2.2.2.2
      clear rr
      by_cases hpl : p < 1099511627776
      · have wp : IntKind.i64.wrap (p + 1) = p + 1 := by rw [IntKind.wrap_i64]; unfold Bd at hbd; omega
        have HN : Hid (OwnT B (wr.setCell ⟨bl, j * 5 + 4, none⟩ (.int .i64 (p + 1))) (.slice (some ⟨bl, 0, none⟩) (k + m + 1) c) (lbump S.left (j + 1))) := Lib.hid (by
          have := ho.set4 (i := j) (by omega) (p + 1)
          rw [lbump_at hjl] at this
          have e : GN.bump (S.left.getD j SK.t0) = ((S.left.getD j SK.t0).1, (S.left.getD j SK.t0).2.1, (S.left.getD j SK.t0).2.2.1, (S.left.getD j SK.t0).2.2.2.1, p + 1) := by
            unfold GN.bump
            rw [if_pos (by rw [hp]; exact hpl), hp]
          rw [← e, lbump_set hjl] at this
          exact this)
        have HCN : Hid (Chg (fun q => q = bl) W1 (wr.setCell ⟨bl, j * 5 + 4, none⟩ (.int .i64 (p + 1)))) := Lib.hid (HC.out.set (p := ⟨bl, j * 5 + 4, none⟩) rfl _)
        clear ho hp hbd
        go_wp2_with fail
        go_roundw
        case rel => exact ⟨j + 1, hlt, by simp, HN.out, HCN.out⟩
        case measure => simp [intOf]; omega
      · have HN : Hid (OwnT B wr (.slice (some ⟨bl, 0, none⟩) (k + m + 1) c) (lbump S.left (j + 1))) := Lib.hid (by
          have e : GN.bump (S.left.getD j SK.t0) = S.left.getD j SK.t0 := by unfold GN.bump; rw [if_neg (by rw [hp]; exact hpl)]
          rw [← lbump_stay hjl e]
          exact ho)
        clear ho hp hbd
        go_wp2_with fail
        go_roundw
        case rel => exact ⟨j + 1, hlt, by simp, HN.out, HC.out⟩
        case measure => simp [intOf]; omega
    · have hjk : j = k := by omega
      subst hjk
      have hltI : ¬ (j : Int) < (j : Int) := by omega
      have KD := Lib.hid (tick_Delete ho)
      have r4 := R4.out.chg HC.out (by omega)
      have r5 := R5.out.chg HC.out (by omega)
      have hmem := H.out.mem.keep HB1.out
      have rm := hmem.chg HC.out (fun e => H.out.n1 e.symm)
      have hgr := (H.out.own.keep HB1.out).chg HC.out (fun q e e2 => (H.out.n4 q e).1 e2)
      have wj : IntKind.i64.wrap ((j : Int) + 1) = (j : Int) + 1 := by rw [IntKind.wrap_i64]; omega
      have RR := Lib.hid rr
      have R4b := Lib.hid r4
      have R5b := Lib.hid r5
      have RMb := Lib.hid rm
      have GRb := Lib.hid hgr
      clear ho r4 r5 hmem rm hgr rr
      go_wp2_with fail
      refine KD.out.mono ?_
      rintro e w8 ⟨rfl, ho8, hc8⟩
      have nlr : bl ≠ rb := fun e => nrl e.symm
      have nmr : bm ≠ rb := fun e => H.out.n3 e.symm
      have n4r : ws ≠ rb := by omega
      have n5r : ws + 1 ≠ rb := by omega
      have r8 := RR.out.chg hc8 nrl
      have e0 := (r8.cell 0).trans rfl
      have e1 := (r8.cell 1).trans rfl
      have e2 := (r8.cell 2).trans rfl
      have e3 := (r8.cell 3).trans rfl
      have g1 := r8.frozen 1
      have R8 := Lib.hid r8
      have HO8 := Lib.hid ho8
      have HC8 := Lib.hid hc8
      clear ho8 hc8 r8 d0 d1 d2 d3 KD
      go_upto_region 9 with (fail)
      refine region_nameL ?_
      rintro W9 hW9
      have C9 : Chg (fun q => q = rb) w8 W9 := by rw [hW9]; exact (Chg.refl (fun q => q = rb) w8).set (p := ⟨rb, 1, none⟩) rfl _
      have r9 : RowA W9 rb 56 [vg, .slice (some ⟨bl, 0, none⟩) (j + m) c, .slice (some ⟨bm, 0, none⟩) mn mn, .int .i64 fr] := by rw [hW9]; exact R8.out.set_ 1 _
      have l9 := HO8.out.chg C9 (fun q e => by cases e; exact nlr)
      have m9 := (RMb.out.chg HC8.out (fun e => H.out.n1 e.symm)).chg C9 nmr
      have w49 := (R4b.out.chg HC8.out (by omega)).chg C9 n4r
      have w59 := (R5b.out.chg HC8.out (by omega)).chg C9 n5r
      have o9 := (GRb.out.chg HC8.out (fun q e e2 => (H.out.n4 q e).1 e2)).chg C9 (fun q e e2 => (H.out.n4 q e).2.2 e2)
      have hcw : Chg (fun q => q = rb ∨ q = bl) W1 W9 := ((HC.out.trans HC8.out).mono (fun _ _ e => .inr e)).trans (C9.mono (fun _ _ e => .inl e))
      have hid1 : SK.member S.ms a1 = (GN.mj S j : Int) := by
        have h1 := HG.out.mem
        have h2 : SK.cl S.left j = a1 := by have := HT.out; unfold GN.tk at this; unfold SK.cl; rw [this]
        rwa [h2] at h1
      obtain ⟨jj, hjj⟩ : ∃ jj, GN.mj S j = jj := ⟨_, rfl⟩
      rw [hjj] at hid1
      have HJJ := Lib.hid hjj
      have hjlt : jj < mn := by have := HG.out.jlt; rw [hjj, HMN.out] at this; exact this
      have KI := mem_IndexFunc mn 99 #[.pointer (some ⟨ws + 1, 0, none⟩)] (fun x => decide (x.1 = a1)) (memAt_row m9 H.out.bms H.out.lm) (fun args w => by simp [go_sem]) (fun x X hX _ => grant_pred x ((hX.cell (p := ⟨ws + 1, 1, none⟩) w59.lt).trans ((w59.cell 1).trans rfl)))
      have hidx : PO.idx (fun x => decide (x.1 = a1)) S.ms = (jj : Int) := hid1
      rw [hidx, HMN.out] at KI
      have KI := Lib.hid KI
      have e0 := (r9.cell 0).trans rfl
      have e1 := (r9.cell 1).trans rfl
      have e2 := (r9.cell 2).trans rfl
      have e3 := (r9.cell 3).trans rfl
      have HR9 := Lib.hid r9
      have HL9 := Lib.hid l9
      have HM9 := Lib.hid m9
      have HW4 := Lib.hid w49
      have HW5 := Lib.hid w59
      have HO9 := Lib.hid o9
      have HCW := Lib.hid hcw
      clear hW9 C9 r9 l9 m9 w49 w59 o9 hcw hid1 hidx hjj g1 HO8 HC8 R8 RR R4b R5b RMb GRb HC
      go_wp2_with fail
      refine KI.out.mono ?_
      rintro e w10 ⟨rfl, b10⟩
      have r10 := HR9.out.keep b10
      have w5 := HW5.out.keep b10
      have m10 := HM9.out.keep b10
      obtain ⟨i0, i1, i2, i3, him⟩ : ∃ i0 i1 i2 i3, S.ms.getD jj PO.m0 = (i0, i1, i2, i3) := ⟨_, _, _, _, rfl⟩
      have hjl : jj < S.ms.length := by rw [HMN.out]; exact hjlt
      have hmc : ∀ r, r < 4 → w10.cell? ⟨bm, jj * 4 + r, none⟩ = some (comp r (i0, i1, i2, i3)) := fun r hr => by
        rw [m10.cell, cellsM_at _ (by omega), show (jj * 4 + r) % 4 = r by omega, show (jj * 4 + r) / 4 = jj by omega, him]
      have y1 : w10.cell? ⟨bm, jj * 4 + 1, none⟩ = some (.int .i64 i1) := hmc 1 (by omega)
      have y2 : w10.cell? ⟨bm, jj * 4 + 1 + 1, none⟩ = some (.int .i64 i2) := hmc 2 (by omega)
      have y3 : w10.cell? ⟨bm, jj * 4 + 1 + 2, none⟩ = some (.int .i64 i3) := hmc 3 (by omega)
      have ybd : MemBd (i0, i1, i2, i3) := by rw [← him, PO.getD_at hjl]; exact H.out.bms _ (List.getElem_mem _)
      have gok : PA.right i1 i2 i3 = true := by have := HG.out.ok; rw [HJJ.out, him] at this; exact this
      have gn1 : 1 ≤ a2 := by have := HG.out.n1; rw [HT.out] at this; exact this
      have gnf : a2 ≤ fr := by have := HG.out.nf; rw [HT.out, HFR.out] at this; exact this
      have gnr : a2 ≤ i3 := by have := HG.out.nr; rw [HT.out, HJJ.out, him] at this; exact this
      have gf0 : 0 ≤ fr := by have := HG.out.f0; rw [HFR.out] at this; exact this
      have gf1 : fr ≤ 1048576 := by have := HG.out.f1; rw [HFR.out] at this; exact this
      have KA : Hid (∀ W, Below w10.heap.size w10 W → Calls Try.prog 59 #[.agg #[.int .i64 i1, .int .i64 i2, .int .i64 i3], .int .i64 a2] W fun e w' => e = .returned (.tuple #[.agg #[.int .i64 i1, .int .i64 (i2 + a2), .int .i64 (i3 - a2)], .int .i64 0]) ∧ Below W.heap.size W w') := Lib.hid (fun W _ => by
        have := account_Grant i1 i2 i3 a2 W ybd.2.1 ybd.2.2.1 ybd.2.2.2 (by omega)
        rwa [PA.doo2_yes gok gn1 gnr] at this)
      have lbm : bm < w10.heap.size := m10.lt
      have jm0 : (0 : Int) ≤ (jj : Int) := by omega
      have jm1 : (jj : Int) < (mn : Int) := by omega
      have hS : Hid (∀ W : World, Below w10.heap.size w10 W → (fun W : World => W.cell? ⟨rb, 2, none⟩ = some (.slice (some ⟨bm, 0, none⟩) mn mn) ∧ W.cell? ⟨ws + 1, 2, none⟩ = some (.int .i64 a2)) W) := Lib.hid (fun W hW => ⟨(hW.cell (p := ⟨rb, 2, none⟩) r10.lt).trans ((r10.cell 2).trans rfl), (hW.cell (p := ⟨ws + 1, 2, none⟩) w5.lt).trans ((w5.cell 2).trans rfl)⟩)
      have HI := Lib.hid him
      have B10 := Lib.hid b10
      have Y1 := Lib.hid y1
      have Y2 := Lib.hid y2
      have Y3 := Lib.hid y3
      have NE1 : Hid (rb ≠ bm) := Lib.hid H.out.n3
      have NE2 : Hid (ws + 1 ≠ bm) := Lib.hid (by have := HM9.out.lt; have h1 := (H.out.mem.lt); rw [HWS.out] at h1; omega)
      clear r10 w5 m10 hmc b10 him e0 e1 e2 e3 KI
      go_upto_region 10 with (fail)
      refine wp_region_held_drew (S := (fun W : World => W.cell? ⟨rb, 2, none⟩ = some (.slice (some ⟨bm, 0, none⟩) mn mn) ∧ W.cell? ⟨ws + 1, 2, none⟩ = some (.int .i64 a2))) (by kernel_rfl) ?_ (fun hHeld => ?_)
      focus ((try dsimp only); first | exact q | exact hS.out _ (by repeat (first | exact Below.refl _ _ | assumption | refine bel_drew ?_ | refine bel_drewN ?_ _ | refine bel_alloc ?_ _ | refine bel_trans ?_ (by assumption))))
      refine tk_yes 0 (v := ?_) rfl (by kernel_rfl) (by kernel_rfl) (by kernel_rfl) (fun _ _ _ h => h) (by kernel_rfl) (by assumption) ?_ ?_; rotate_left; (focus (intro w hSw; (try dsimp only at hSw); go_simp; (first | done | (with_reducible rfl)))); (try simp only [Act.put, List.setIfInBounds_toArray, List.set_cons_zero, List.set_cons_succ])
      refine tk_yes 1 (v := ?_) rfl (by kernel_rfl) (by kernel_rfl) (by kernel_rfl) (fun _ _ _ h => h) (by kernel_rfl) (by assumption) ?_ ?_; rotate_left; (focus (intro w hSw; (try dsimp only at hSw); go_simp; (first | done | (with_reducible rfl)))); (try simp only [Act.put, List.setIfInBounds_toArray, List.set_cons_zero, List.set_cons_succ])
      refine tk_yes 2 (v := ?_) rfl (by kernel_rfl) (by kernel_rfl) (by kernel_rfl) (fun _ _ _ h => h) (by kernel_rfl) (by assumption) ?_ ?_; rotate_left; (focus (intro w hSw; (try dsimp only at hSw); go_simp; (first | done | (with_reducible rfl)))); (try simp only [Act.put, List.setIfInBounds_toArray, List.set_cons_zero, List.set_cons_succ])
      refine tk_yes 3 (v := ?_) rfl (by kernel_rfl) (by kernel_rfl) (by kernel_rfl) (fun _ _ _ h => h) (by kernel_rfl) (by assumption) ?_ ?_; rotate_left; (focus (intro w hSw; (try dsimp only at hSw); go_simp; (first | done | (with_reducible rfl)))); (try simp only [Act.put, List.setIfInBounds_toArray, List.set_cons_zero, List.set_cons_succ])
      refine tk_yes 4 (v := ?_) rfl (by kernel_rfl) (by kernel_rfl) (by kernel_rfl) (fun _ _ _ h => h) (by kernel_rfl) (by assumption) ?_ ?_; rotate_left; (focus (intro w hSw; (try dsimp only at hSw); go_simp; (first | done | (with_reducible rfl)))); (try simp only [Act.put, List.setIfInBounds_toArray, List.set_cons_zero, List.set_cons_succ])
      refine tk_yes 5 (v := ?_) rfl (by kernel_rfl) (by kernel_rfl) (by kernel_rfl) (fun _ _ _ h => h) (by kernel_rfl) (by assumption) ?_ ?_; rotate_left; (focus (intro w hSw; (try dsimp only at hSw); go_simp; (first | done | (with_reducible rfl)))); (try simp only [Act.put, List.setIfInBounds_toArray, List.set_cons_zero, List.set_cons_succ])
      refine tk_yes 6 (v := ?_) rfl (by kernel_rfl) (by kernel_rfl) (by kernel_rfl) (fun _ _ _ h => h) (by kernel_rfl) (by assumption) ?_ ?_; rotate_left; (focus (intro w hSw; (try dsimp only at hSw); go_simp; (first | done | (with_reducible rfl)))); (try simp only [Act.put, List.setIfInBounds_toArray, List.set_cons_zero, List.set_cons_succ])
      refine tk_yes 7 (v := ?_) rfl (by kernel_rfl) (by kernel_rfl) (by kernel_rfl) (fun _ _ _ h => h) (by kernel_rfl) (by assumption) ?_ ?_; rotate_left; (focus (intro w hSw; (try dsimp only at hSw); go_simp; (first | done | (with_reducible rfl)))); (try simp only [Act.put, List.setIfInBounds_toArray, List.set_cons_zero, List.set_cons_succ])
      refine tk_yes 8 (v := ?_) rfl (by kernel_rfl) (by kernel_rfl) (by kernel_rfl) (fun _ _ _ h => h) (by kernel_rfl) (by assumption) ?_ ?_; rotate_left; (focus (intro w hSw; (try dsimp only at hSw); go_simp; (first | done | (with_reducible rfl)))); (try simp only [Act.put, List.setIfInBounds_toArray, List.set_cons_zero, List.set_cons_succ])
      refine tk_yes 9 (v := ?_) rfl (by kernel_rfl) (by kernel_rfl) (by kernel_rfl) (fun _ _ _ h => h) (by kernel_rfl) (by assumption) ?_ ?_; rotate_left; (focus (intro w hSw; (try dsimp only at hSw); go_simp; (first | done | (with_reducible rfl)))); (try simp only [Act.put, List.setIfInBounds_toArray, List.set_cons_zero, List.set_cons_succ])
      refine tk_yes 10 (v := ?_) rfl (by kernel_rfl) (by kernel_rfl) (by kernel_rfl) (fun _ _ _ h => h) (by kernel_rfl) (by assumption) ?_ ?_; rotate_left; (focus (intro w hSw; (try dsimp only at hSw); go_simp; (first | done | (with_reducible rfl)))); (try simp only [Act.put, List.setIfInBounds_toArray, List.set_cons_zero, List.set_cons_succ])
      refine tk_yes 11 (v := ?_) rfl (by kernel_rfl) (by kernel_rfl) (by kernel_rfl) (fun _ _ _ h => h) (by kernel_rfl) (by assumption) ?_ ?_; rotate_left; (focus (intro w hSw; (try dsimp only at hSw); go_simp; (first | done | (with_reducible rfl)))); (try simp only [Act.put, List.setIfInBounds_toArray, List.set_cons_zero, List.set_cons_succ])
      refine tk_yes 13 (v := ?_) rfl (by kernel_rfl) (by kernel_rfl) (by kernel_rfl) (fun _ _ _ h => h) (by kernel_rfl) (by assumption) ?_ ?_; rotate_left; (focus (intro w hSw; (try dsimp only at hSw); go_simp; (first | done | (with_reducible rfl)))); (try simp only [Act.put, List.setIfInBounds_toArray, List.set_cons_zero, List.set_cons_succ])
      refine tk_yes 14 (v := ?_) rfl (by kernel_rfl) (by kernel_rfl) (by kernel_rfl) (fun _ _ _ h => h) (by kernel_rfl) (by assumption) ?_ ?_; rotate_left; (focus (intro w hSw; (try dsimp only at hSw); go_simp; (first | done | (with_reducible rfl)))); (try simp only [Act.put, List.setIfInBounds_toArray, List.set_cons_zero, List.set_cons_succ])
      refine tk_call 12 rfl (by kernel_rfl) (by kernel_rfl) (fun KW hKW => ?_); go_simp; refine hKW.out _ _ ?_ (fun hHeld => ?_); (focus ((try dsimp only); first | exact q | exact hS.out _ (by repeat (first | exact Below.refl _ _ | assumption | refine bel_drew ?_ | refine bel_drewN ?_ _ | refine bel_alloc ?_ _ | refine bel_trans ?_ (by assumption))))); clear hKW KW; (try simp only [Act.put, List.setIfInBounds_toArray, List.set_cons_zero, List.set_cons_succ])
      refine tk_call 15 rfl (by kernel_rfl) (by kernel_rfl) (fun KW hKW => ?_); go_simp; go_at_call 59; refine (KA.out _ (by repeat (first | exact Below.refl _ _ | assumption | refine bel_drew ?_ | refine bel_drewN ?_ _ | refine bel_alloc ?_ _ | refine bel_trans ?_ (by assumption)))).mono ?_; rintro e u15 ⟨rfl, hb15⟩; have B15 := bel_to (W0 := w10) (by repeat (first | exact Below.refl _ _ | assumption | refine bel_drew ?_ | refine bel_drewN ?_ _ | refine bel_alloc ?_ _ | refine bel_trans ?_ (by assumption))) hb15; have q := hS.out _ B15; clear hb15; refine hKW.out _ _ ?_ (fun hHeld => ?_); (focus ((try dsimp only); first | exact q | exact hS.out _ (by repeat (first | exact Below.refl _ _ | assumption | refine bel_drew ?_ | refine bel_drewN ?_ _ | refine bel_alloc ?_ _ | refine bel_trans ?_ (by assumption))))); clear hKW KW; (try simp only [Act.put, List.setIfInBounds_toArray, List.set_cons_zero, List.set_cons_succ])
      refine tk_yes 16 (v := ?_) rfl (by kernel_rfl) (by kernel_rfl) (by kernel_rfl) (fun _ _ _ h => h) (by kernel_rfl) (by assumption) ?_ ?_; rotate_left; (focus (intro w hSw; (try dsimp only at hSw); go_simp; (first | done | (with_reducible rfl)))); (try simp only [Act.put, List.setIfInBounds_toArray, List.set_cons_zero, List.set_cons_succ])
      refine tk_yes 17 (v := ?_) rfl (by kernel_rfl) (by kernel_rfl) (by kernel_rfl) (fun _ _ _ h => h) (by kernel_rfl) (by assumption) ?_ ?_; rotate_left; (focus (intro w hSw; (try dsimp only at hSw); go_simp; (first | done | (with_reducible rfl)))); (try simp only [Act.put, List.setIfInBounds_toArray, List.set_cons_zero, List.set_cons_succ])
      refine tk_yes 18 (v := ?_) rfl (by kernel_rfl) (by kernel_rfl) (by kernel_rfl) (fun _ _ _ h => h) (by kernel_rfl) (by assumption) ?_ ?_; rotate_left; (focus (intro w hSw; (try dsimp only at hSw); go_simp; (first | done | (with_reducible rfl)))); (try simp only [Act.put, List.setIfInBounds_toArray, List.set_cons_zero, List.set_cons_succ])
      refine tk_yes 19 (v := ?_) rfl (by kernel_rfl) (by kernel_rfl) (by kernel_rfl) (fun _ _ _ h => h) (by kernel_rfl) (by assumption) ?_ ?_; rotate_left; (focus (intro w hSw; (try dsimp only at hSw); go_simp; (first | done | (with_reducible rfl)))); (try simp only [Act.put, List.setIfInBounds_toArray, List.set_cons_zero, List.set_cons_succ])
      refine tk_yes 20 (v := ?_) rfl (by kernel_rfl) (by kernel_rfl) (by kernel_rfl) (fun _ _ _ h => h) (by kernel_rfl) (by assumption) ?_ ?_; rotate_left; (focus (intro w hSw; (try dsimp only at hSw); go_simp; (first | done | (with_reducible rfl)))); (try simp only [Act.put, List.setIfInBounds_toArray, List.set_cons_zero, List.set_cons_succ])
      have m15 := (HM9.out.keep B10.out).keep B15
      have f1 := m15.frozen (jj * 4 + 1)
      have f2 := m15.frozen (jj * 4 + 1 + 1)
      have f3 := m15.frozen (jj * 4 + 1 + 2)
      have z1 := (B15.cell (p := ⟨bm, jj * 4 + 1, none⟩) lbm).trans Y1.out
      have z2 := (B15.cell (p := ⟨bm, jj * 4 + 1 + 1, none⟩) lbm).trans Y2.out
      have z3 := (B15.cell (p := ⟨bm, jj * 4 + 1 + 2, none⟩) lbm).trans Y3.out
      clear y1 y2 y3
      refine tk_call 21 rfl (by kernel_rfl) (by kernel_rfl) (fun KW hKW => ?_); go_simp; refine hKW.out _ _ ?_ (fun hHeld => ?_); (focus ((try dsimp only); exact ⟨set3_cell q.1 NE1.out _ _ _, set3_cell q.2 NE2.out _ _ _⟩)); clear hKW KW; (try simp only [Act.put, List.setIfInBounds_toArray, List.set_cons_zero, List.set_cons_succ])
      refine wpAnyH_done (by kernel_rfl) ?_ _
      go_upto_region 11 with (fail)
      refine region_nameL ?_
      rintro W11 hW11
      have C11 : Chg (fun q => q = bm) u15 W11 := by rw [hW11]; exact (((((Chg.refl (fun q => q = bm) u15).set (p := ⟨bm, jj * 4 + 1, none⟩) rfl _).set (p := ⟨bm, jj * 4 + 1 + 1, none⟩) rfl _).set (p := ⟨bm, jj * 4 + 1 + 2, none⟩) rfl _))
      have m11 : RowA W11 bm 34 (cellsM (S.ms.set jj (SK.give (S.ms.getD jj PO.m0) a2))) := by
        have e : SK.give (S.ms.getD jj PO.m0) a2 = ((S.ms.getD jj PO.m0).1, i1, i2 + a2, i3 - a2) := by rw [HI.out]; rfl
        rw [e, ← cellsM_set3 (by rw [HMN.out]; exact hjlt), hW11]
        exact ((m15.set_ _ _).set_ _ _).set_ _ _
      have n1' : bm ≠ bl := fun e => H.out.n1 e.symm
      have B15' : Below W9.heap.size W9 u15 := bel_trans B10.out B15
      have r11 := (HR9.out.keep B15').chg C11 H.out.n3
      have l11 := (HL9.out.keep B15').chg C11 (fun q e => by cases e; exact H.out.n1)
      have w411 := (HW4.out.keep B15').chg C11 (by have := NE2.out; have h1 := H.out.mem.lt; rw [HWS.out] at h1; omega)
      have w511 := (HW5.out.keep B15').chg C11 NE2.out
      have o11 := (HO9.out.keep B15').chg C11 (fun q e e2 => (H.out.n4 q e).2.1 e2)
      have CW11 : Chg (fun q => q = rb ∨ q = bl ∨ q = bm) W1 W11 := ((HCW.out.mono (fun _ _ e => e.elim .inl (fun e => .inr (.inl e)))).trans (Chg.of_below B15')).trans (C11.mono (fun _ _ e => .inr (.inr e)))
      have HM11 := Lib.hid m11
      have HL11 := Lib.hid l11
      have HO11 := Lib.hid o11
      have HCW11 := Lib.hid CW11
      have R11 := Lib.hid r11
      have W411 := Lib.hid w411
      have W511 := Lib.hid w511
      have e3 := (r11.cell 3).trans rfl
      have t2 := (w511.cell 2).trans rfl
      have fr3 := r11.frozen 3
      have wfr : IntKind.i64.wrap (fr - a2) = fr - a2 := by rw [IntKind.wrap_i64]; omega
      clear hW11 C11 m11 B15' r11 l11 w411 w511 o11 CW11 m15 f1 f2 f3 z1 z2 z3 q hS KA B15 HR9 HL9 HM9 HW4 HW5 HO9 HCW Y1 Y2 Y3
      go_region
      go_upto_region 12 with (fail)
      refine region_nameL ?_
      rintro W12 hW12
      have C12 : Chg (fun q => q = rb) W11 W12 := by rw [hW12]; exact ((Chg.refl (fun q => q = rb) W11).set (p := ⟨rb, 3, none⟩) rfl _).drew
      have r12 : RowA W12 rb 56 [vg, .slice (some ⟨bl, 0, none⟩) (j + m) c, .slice (some ⟨bm, 0, none⟩) mn mn, .int .i64 (fr - a2)] := by rw [hW12]; exact R11.out.set_ 3 _
      have w512 := W511.out.chg C12 (by omega)
      have p3 := (w512.cell 3).trans rfl
      have q3 := w512.frozen 3
      have HR12 := Lib.hid r12
      have HW5 := Lib.hid w512
      have HC12 := Lib.hid C12
      clear hW12 C12 r12 w512 e3 t2 fr3 R11 W511
      go_upto_region 13 with (fail)
      refine region_nameL ?_
      rintro W13 hW13
      have C13 : Chg (fun q => q = ws + 1) W12 W13 := by rw [hW13]; exact (Chg.refl (fun q => q = ws + 1) W12).set (p := ⟨ws + 1, 3, none⟩) rfl _
      have w513 : RowA W13 (ws + 1) 51 [.int .i64 a0, .int .i64 a1, .int .i64 a2, .int .i64 2, .int .i64 a4] := by rw [hW13]; exact HW5.out.set_ 3 _
      have l0 := H.out.mem.lt
      rw [HWS.out] at l0
      have r13 := HR12.out.chg C13 (by omega)
      have w413 := (W411.out.chg HC12.out (by omega)).chg C13 (by omega)
      have m13 := (HM11.out.chg HC12.out (fun e => H.out.n3 e.symm)).chg C13 (by omega)
      have l13 := (HL11.out.chg HC12.out (fun q e => by cases e; exact fun e2 => nrl e2.symm)).chg C13 (fun q e => by cases e; exact (show ¬ bl = ws + 1 by omega))
      have lgv : ∀ q, vg.ownBlock = some q → q < ws := fun q e => by have := (H.out.own.ltB q e).2; rwa [HWS.out] at this
      have o13 := (HO11.out.chg HC12.out (fun q e e2 => (H.out.n4 q e).2.2 e2)).chg C13 (fun q e e2 => by have := lgv q e; omega)
      have CW13 : Chg (fun q => q = rb ∨ q = bl ∨ q = bm ∨ q = ws + 1) W1 W13 := (((HCW11.out.mono (fun _ _ e => e.elim .inl (fun e => .inr (e.elim .inl (fun e => .inr (.inl e)))))).trans (HC12.out.mono (fun _ _ e => .inl e))).trans (C13.mono (fun _ _ e => .inr (.inr (.inr e)))))
      have sz13 : ws + 2 ≤ W13.heap.size := Nat.le_trans sW1 CW13.size
      have HR13 := Lib.hid r13
      have HW4 := Lib.hid w413
      have HW5 := Lib.hid w513
      have HM13 := Lib.hid m13
      have HL13 := Lib.hid l13
      have HO13 := Lib.hid o13
      have HCW13 := Lib.hid CW13
      have HLGV := Lib.hid lgv
      have qa : ∀ o, (W13.alloc o).cell? ⟨rb, 0, none⟩ = some vg := fun o => ((Below.cell (bel_alloc (Below.refl _ W13) o) (p := ⟨rb, 0, none⟩) r13.lt)).trans ((r13.cell 0).trans rfl)
      have qb : W13.cell? ⟨rb, 0, none⟩ = some vg := (r13.cell 0).trans rfl
      have KS : Hid (∀ W : World, Chg (fun q => q = rb ∨ vg.ownBlock = some q) W13 W → (fun W : World => W.cell? ⟨ws + 1, 0, none⟩ = some (.int .i64 a0) ∧ W.cell? ⟨ws + 1, 1, none⟩ = some (.int .i64 a1) ∧ W.cell? ⟨ws + 1, 2, none⟩ = some (.int .i64 a2) ∧ W.cell? ⟨ws + 1, 3, none⟩ = some (.int .i64 2) ∧ W.cell? ⟨ws + 1, 4, none⟩ = some (.int .i64 a4)) W) := Lib.hid (fun W hW => by
        have r := w513.chg hW (fun e => by rcases e with e | e; omega; have := lgv _ e; omega)
        exact ⟨(r.cell 0).trans rfl, (r.cell 1).trans rfl, (r.cell 2).trans rfl, (r.cell 3).trans rfl, (r.cell 4).trans rfl⟩)
      have hlen7 : gr.length + 1 ≤ 1048576 := by have := H.out.len; omega
      have HL7 := Lib.hid hlen7
      have HB13 : Hid (B ≤ W13.heap.size) := Lib.hid (by have := H.out.bw; rw [HWS.out] at this; omega)
      clear hW13 C13 w513 r13 w413 m13 l13 o13 CW13 lgv p3 q3 HC12 HR12 HL11 HM11 HO11 HCW11 W411 hlen7
      refine wp_region_held_drew (S := (fun W : World => W.cell? ⟨ws + 1, 0, none⟩ = some (.int .i64 a0) ∧ W.cell? ⟨ws + 1, 1, none⟩ = some (.int .i64 a1) ∧ W.cell? ⟨ws + 1, 2, none⟩ = some (.int .i64 a2) ∧ W.cell? ⟨ws + 1, 3, none⟩ = some (.int .i64 2) ∧ W.cell? ⟨ws + 1, 4, none⟩ = some (.int .i64 a4))) (by kernel_rfl) ?_ (fun hHeld => ?_)
      focus ((try dsimp only); first | exact KS.out _ hc7.out | exact KS.out _ (hc7.out.set (.inl rfl) _) | exact KS.out _ (Chg.of_below (by repeat (first | exact Below.refl _ _ | assumption | refine bel_drew ?_ | refine bel_drewN ?_ _ | refine bel_alloc ?_ _ | refine bel_trans ?_ (by assumption)))))
      refine tk_yes 0 (v := ?_) rfl (by kernel_rfl) (by kernel_rfl) (by kernel_rfl) (fun _ _ _ h => h) (by kernel_rfl) (by assumption) ?_ ?_; rotate_left; (focus (intro w hSw; (try dsimp only at hSw); go_simp; (first | done | (with_reducible rfl)))); (try simp only [Act.put, List.setIfInBounds_toArray, List.set_cons_zero, List.set_cons_succ])
      refine tk_yes 1 (v := ?_) rfl (by kernel_rfl) (by kernel_rfl) (by kernel_rfl) (fun _ _ _ h => h) (by kernel_rfl) (by assumption) ?_ ?_; rotate_left; (focus (intro w hSw; (try dsimp only at hSw); go_simp; (first | done | (with_reducible rfl)))); (try simp only [Act.put, List.setIfInBounds_toArray, List.set_cons_zero, List.set_cons_succ])
      refine tk_yes 2 (v := ?_) rfl (by kernel_rfl) (by kernel_rfl) (by kernel_rfl) (fun _ _ _ h => h) (by kernel_rfl) (by assumption) ?_ ?_; rotate_left; (focus (intro w hSw; (try dsimp only at hSw); go_simp; (first | done | (with_reducible rfl)))); (try simp only [Act.put, List.setIfInBounds_toArray, List.set_cons_zero, List.set_cons_succ])
      refine tk_yes 3 (v := ?_) rfl (by kernel_rfl) (by kernel_rfl) (by kernel_rfl) (fun _ _ _ h => h) (by kernel_rfl) (by assumption) ?_ ?_; rotate_left; (focus (intro w hSw; (try dsimp only at hSw); go_simp; (first | done | (with_reducible rfl)))); (try simp only [Act.put, List.setIfInBounds_toArray, List.set_cons_zero, List.set_cons_succ])
      refine tk_yes 5 (v := ?_) rfl (by kernel_rfl) (by kernel_rfl) (by kernel_rfl) (fun _ _ _ h => h) (by kernel_rfl) (by assumption) ?_ ?_; rotate_left; (focus (intro w hSw; (try dsimp only at hSw); go_simp; (first | done | (with_reducible rfl)))); (try simp only [Act.put, List.setIfInBounds_toArray, List.set_cons_zero, List.set_cons_succ])
      refine tk_two 4 6 rfl rfl (by kernel_rfl) (by kernel_rfl) (by kernel_rfl) (fun KW hKW => ?_) (fun KW hKW => ?_)
      · go_simp; refine hKW.out _ _ ?_ (fun hHeld => ?_); (focus ((try dsimp only); first | exact KS.out _ hc7.out | exact KS.out _ (hc7.out.set (.inl rfl) _) | exact KS.out _ (Chg.of_below (by repeat (first | exact Below.refl _ _ | assumption | refine bel_drew ?_ | refine bel_drewN ?_ _ | refine bel_alloc ?_ _ | refine bel_trans ?_ (by assumption)))))); clear hKW KW; (try simp only [Act.put, List.setIfInBounds_toArray, List.set_cons_zero, List.set_cons_succ])
        refine tk_call 6 rfl (by kernel_rfl) (by kernel_rfl) (fun KW hKW => ?_); go_simp; skip; refine hKW.out _ _ ?_ (fun hHeld => ?_); (focus ((try dsimp only); first | exact KS.out _ hc7.out | exact KS.out _ (hc7.out.set (.inl rfl) _) | exact KS.out _ (Chg.of_below (by repeat (first | exact Below.refl _ _ | assumption | refine bel_drew ?_ | refine bel_drewN ?_ _ | refine bel_alloc ?_ _ | refine bel_trans ?_ (by assumption)))))); clear hKW KW; (try simp only [Act.put, List.setIfInBounds_toArray, List.set_cons_zero, List.set_cons_succ])
        refine tk_call 7 rfl (by kernel_rfl) (by kernel_rfl) (fun KW hKW => ?_); refine app_operT (.tmp 98) (.tmp 100) rfl B vg gr rfl (HO13.out.keep (by repeat (first | exact Below.refl _ _ | assumption | refine bel_drew ?_ | refine bel_drewN ?_ _ | refine bel_alloc ?_ _ | refine bel_trans ?_ (by assumption)))) (some ⟨_, 0, none⟩) 1 1 [(a0, a1, a2, 2, a4)] rfl (src_oneT (RowA.new _ 51 _)) HL7.out (Nat.le_trans HB13.out (Below.size (by repeat (first | exact Below.refl _ _ | assumption | refine bel_drew ?_ | refine bel_drewN ?_ _ | refine bel_alloc ?_ _ | refine bel_trans ?_ (by assumption))))) ?_; intro v7 w7 ho7 hg7 hor7; obtain ⟨A7, n7, c7, rfl⟩ := ho7.form; have hc7' := Chg.trans (own := fun q => vg.ownBlock = some q) (a := W13) (Chg.of_below (by repeat (first | exact Below.refl _ _ | assumption | refine bel_drew ?_ | refine bel_drewN ?_ _ | refine bel_alloc ?_ _ | refine bel_trans ?_ (by assumption)))) (Chg.of_grown hg7 (fun _ e => e)); have r7 := HR13.out.chg hc7' (fun e => (H.out.n4 _ e).2.2 rfl); have hc7 := hc7'.mono (own' := fun q => q = rb ∨ vg.ownBlock = some q) (fun _ _ e => .inr e); clear hc7'; have z0 := (r7.cell 0).trans rfl; have f0 := r7.frozen 0; replace ho7 := Lib.hid ho7; replace hor7 := Lib.hid hor7; replace hc7 := Lib.hid hc7; replace r7 := Lib.hid r7; clear hg7; refine hKW.out _ _ ?_ (fun hHeld => ?_); (focus ((try dsimp only); first | exact KS.out _ hc7.out | exact KS.out _ (hc7.out.set (.inl rfl) _) | exact KS.out _ (Chg.of_below (by repeat (first | exact Below.refl _ _ | assumption | refine bel_drew ?_ | refine bel_drewN ?_ _ | refine bel_alloc ?_ _ | refine bel_trans ?_ (by assumption)))))); clear hKW KW; (try simp only [Act.put, List.setIfInBounds_toArray, List.set_cons_zero, List.set_cons_succ])
        refine tk_yes 8 (v := ?_) rfl (by kernel_rfl) (by kernel_rfl) (by kernel_rfl) (fun _ _ _ h => h) (by kernel_rfl) (by assumption) ?_ ?_; rotate_left; (focus (intro w hSw; (try dsimp only at hSw); go_simp; (first | done | (with_reducible rfl)))); (try simp only [Act.put, List.setIfInBounds_toArray, List.set_cons_zero, List.set_cons_succ])
        refine tk_yes 9 (v := ?_) rfl (by kernel_rfl) (by kernel_rfl) (by kernel_rfl) (fun _ _ _ h => h) (by kernel_rfl) (by assumption) ?_ ?_; rotate_left; (focus (intro w hSw; (try dsimp only at hSw); go_simp; (first | done | (with_reducible rfl)))); (try simp only [Act.put, List.setIfInBounds_toArray, List.set_cons_zero, List.set_cons_succ])
        refine tk_call 10 rfl (by kernel_rfl) (by kernel_rfl) (fun KW hKW => ?_); go_simp; refine hKW.out _ _ ?_ (fun hHeld => ?_); (focus ((try dsimp only); first | exact KS.out _ hc7.out | exact KS.out _ (hc7.out.set (.inl rfl) _) | exact KS.out _ (Chg.of_below (by repeat (first | exact Below.refl _ _ | assumption | refine bel_drew ?_ | refine bel_drewN ?_ _ | refine bel_alloc ?_ _ | refine bel_trans ?_ (by assumption)))))); clear hKW KW; (try simp only [Act.put, List.setIfInBounds_toArray, List.set_cons_zero, List.set_cons_succ])
        refine wpAnyH_done (by kernel_rfl) ?_ _
        go_upto_region 14 with (fail)
        refine region_nameL ?_
        rintro W14 hW14
        have C14 : Chg (fun q => q = rb) w7 W14 := by rw [hW14]; exact (Chg.refl (fun q => q = rb) w7).set (p := ⟨rb, 0, none⟩) rfl _
        have hcA : Chg (fun q => q = rb ∨ vg.ownBlock = some q) W13 W14 := hc7.out.trans (C14.mono (fun _ _ e => .inl e))
        have r14 : RowA W14 rb 56 [.slice A7 n7 c7, .slice (some ⟨bl, 0, none⟩) (j + m) c, .slice (some ⟨bm, 0, none⟩) mn mn, .int .i64 (fr - a2)] := by rw [hW14]; exact r7.out.set_ 0 _
        have nvr : ∀ q, q = rb ∨ vg.ownBlock = some q → q < ws := fun q e => e.elim (fun e => by omega) (fun e => HLGV.out q e)
        have w514 := HW5.out.chg hcA (fun e => by have := nvr _ e; omega)
        have w414 := HW4.out.chg hcA (fun e => by have := nvr _ e; omega)
        have m14 := HM13.out.chg hcA (fun e => e.elim (fun e => H.out.n3 e.symm) (fun e => (H.out.n4 _ e).2.1 rfl))
        have l14 := HL13.out.chg hcA (fun q e => by cases e; exact fun e => e.elim (fun e => nrl e.symm) (fun e => (H.out.n4 _ e).1 rfl))
        have lv7 : ∀ q, (Value.slice A7 n7 c7).ownBlock = some q → (q ≠ bl ∧ q ≠ bm ∧ q ≠ rb) ∧ q ≠ ws ∧ (vg.ownBlock = some q ∨ ws ≤ q) := fun q e => by
          rcases hor7.out with e2 | e2
          · have e3 := e2.symm.trans e
            have e4 := HLGV.out q e3
            exact ⟨H.out.n4 q e3, by omega, .inl e3⟩
          · have e3 := Option.some.inj (e2.symm.trans e)
            simp at e3
            exact ⟨⟨by omega, by omega, by omega⟩, by omega, .inr (by omega)⟩
        have o14 := ho7.out.chg C14 (fun q e e2 => (lv7 q e).1.2.2 e2)
        have CW14 : Chg (fun q => (q = rb ∨ q = bl ∨ q = bm ∨ q = ws + 1) ∨ vg.ownBlock = some q) W1 W14 := (HCW13.out.mono (fun _ _ e => .inl e)).trans (hcA.mono (fun _ _ e => e.elim (fun e => .inl (.inl e)) .inr))
        have s0 := (w514.cell 0).trans rfl
        have s1 := (w514.cell 1).trans rfl
        have s2 := (w514.cell 2).trans rfl
        have s3 := (w514.cell 3).trans rfl
        have s4 := (w514.cell 4).trans rfl
        have v0 := (w414.cell 0).trans rfl
        have v1 := (w414.cell 1).trans rfl
        have v2 := (w414.cell 2).trans rfl
        have v3 := (w414.cell 3).trans rfl
        have v4 := (w414.cell 4).trans rfl
        have g0 := w414.frozen 0
        have g1 := w414.frozen 1
        have g2 := w414.frozen 2
        have g3 := w414.frozen 3
        have g4 := w414.frozen 4
        have HR14 := Lib.hid r14
        have HM14 := Lib.hid m14
        have HL14 := Lib.hid l14
        have HO14 := Lib.hid o14
        have HW14 := Lib.hid w414
        have HCW14 := Lib.hid CW14
        have HV7 := Lib.hid lv7
        have HS7 := Lib.hid hc7.size
        clear hW14 C14 hcA r14 w514 w414 m14 l14 o14 CW14 z0 f0 hc7 qa qb KS r7 lv7 ho7
        go_wp2_with fail
        obtain ⟨W15, hW15⟩ : ∃ W15, (((((W14.setCell ⟨ws, 0, none⟩ (.int .i64 a0)).setCell ⟨ws, 1, none⟩ (.int .i64 a1)).setCell ⟨ws, 2, none⟩ (.int .i64 a2)).setCell ⟨ws, 3, none⟩ (.int .i64 2)).setCell ⟨ws, 4, none⟩ (.int .i64 a4)) = W15 := ⟨_, rfl⟩
        rw [hW15]
        have C15 : Chg (fun q => q = ws) W14 W15 := by rw [← hW15]; exact (((((Chg.refl (fun q => q = ws) W14).set (p := ⟨ws, 0, none⟩) rfl _).set (p := ⟨ws, 1, none⟩) rfl _).set (p := ⟨ws, 2, none⟩) rfl _).set (p := ⟨ws, 3, none⟩) rfl _).set (p := ⟨ws, 4, none⟩) rfl _
        have w15 : RowA W15 ws 51 [.int .i64 a0, .int .i64 a1, .int .i64 a2, .int .i64 2, .int .i64 a4] := by rw [← hW15]; exact ((((HW14.out.set_ 0 _).set_ 1 _).set_ 2 _).set_ 3 _).set_ 4 _
        have y0 := (w15.cell 0).trans rfl
        have y1 := (w15.cell 1).trans rfl
        have y2 := (w15.cell 2).trans rfl
        have y3 := (w15.cell 3).trans rfl
        have y4 := (w15.cell 4).trans rfl
        clear hW15 s0 s1 s2 s3 s4 v0 v1 v2 v3 v4 g0 g1 g2 g3 g4
        refine bodyPost_ret (v := .agg #[.int .i64 a0, .int .i64 a1, .int .i64 a2, .int .i64 2, .int .i64 a4]) (by simp [results, Try.results89, go_sem, y0, y1, y2, y3, y4]) rfl ⟨by rw [HT.out], .slice A7 n7 c7, ?_, ?_, ?_⟩
        · have hL : (GN.gleft S.left j).length = j + m := by have := GN.gleft_len HG.out.lt; have := HM.out; omega
          have eF : (GN.step S j).free = fr - a2 := by show S.free - GN.cnt (GN.tk S j) = _; rw [HFR.out, HT.out]; rfl
          have eT : GN.gtold (GN.tk S j) = (a0, a1, a2, 2, a4) := by rw [HT.out]; rfl
          have eM : (GN.step S j).ms = S.ms.set jj (SK.give (S.ms.getD jj PO.m0) a2) := by show GN.gms S j = _; unfold GN.gms; rw [HJJ.out, HT.out]; rfl
          have tb := H.out.bt (S.left.getD j SK.t0) (by rw [tick_getD HG.out.lt]; exact List.getElem_mem _)
          have eS : S.left.getD j SK.t0 = (a0, a1, a2, a3, a4) := HT.out
          rw [eS] at tb
          have rr := (PA.right_iff _ _ _).1 gok
          refine ⟨?_, ?_, ?_, ?_, ?_, ?_, ?_, ?_, H.out.n1, H.out.n2, H.out.n3, fun q e => (HV7.out q e).1, H.out.b1, H.out.b2, H.out.b3, ?_, ?_, ?_⟩
          · rw [show (GN.step S j).left.length = j + m from hL, GN.step_ms, HMN.out, eF]; exact HR14.out.chg C15 (by omega)
          · rw [eT]; exact HO14.out.chg C15 (fun q e e2 => (HV7.out q e).2.1 e2)
          · have := HL14.out.chg C15 (fun q e => by cases e; exact (show ¬ bl = ws by omega))
            rw [lbump_del HG.out.lt] at this
            rw [show (GN.step S j).left.length = j + m from hL]
            exact this
          · rw [eM]; exact HM14.out.chg C15 (by omega)
          · intro t ht
            rcases List.mem_append.1 ht with h1 | h1
            · obtain ⟨u, hu, rfl⟩ := List.mem_map.1 h1
              exact bump_bd (H.out.bt u (List.mem_of_mem_take hu))
            · exact H.out.bt t (List.mem_of_mem_drop h1)
          · intro t ht
            rcases List.mem_append.1 ht with h1 | h1
            · exact H.out.bg t h1
            · rw [List.mem_singleton.1 h1, eT]; exact ⟨tb.1, tb.2.1, tb.2.2.1, (by show _ ≤ (2 : Int) ∧ (2 : Int) ≤ _; omega), tb.2.2.2.2⟩
          · rw [eM]
            intro q hq
            rcases List.mem_or_eq_of_mem_set hq with h1 | h1
            · exact H.out.bms q h1
            · rw [h1, HI.out]; exact ⟨ybd.1, ybd.2.1, (by show _ ≤ i2 + a2 ∧ i2 + a2 ≤ _; omega), (by show _ ≤ i3 - a2 ∧ i3 - a2 ≤ _; omega)⟩
          · rw [eF]; unfold Bd; omega
          · have := H.out.len; have := HM.out; rw [List.length_append, show (GN.step S j).left.length = j + m from hL]; simp only [List.length_cons, List.length_nil]; omega
          · rw [GN.step_ms]; exact H.out.lm
          · have := C15.size; have := HCW14.out.size; have := HB13.out; have := H.out.bw; rw [HWS.out] at this; omega
        · refine (((Chg.of_below (own := fun q => resOwn rb bl bm vg q ∨ ws ≤ q) HB1.out).trans (HCW14.out.mono (fun q _ e => ?_))).trans (C15.mono (fun q _ e => .inr (by omega)))).mono (fun q hq e => ?_)
          · rcases e with (e | e | e | e) | e
            · exact .inl (.inl e)
            · exact .inl (.inr (.inl e))
            · exact .inl (.inr (.inr (.inl e)))
            · exact .inr (by omega)
            · exact .inl (.inr (.inr (.inr e)))
          · rcases e with e | e
            · exact e
            · rw [HWS.out] at hq; omega
        · intro q e
          rw [HWS.out]
          exact (HV7.out q e).2.2
      · go_simp; skip; refine hKW.out _ _ ?_ (fun hHeld => ?_); (focus ((try dsimp only); first | exact KS.out _ hc7.out | exact KS.out _ (hc7.out.set (.inl rfl) _) | exact KS.out _ (Chg.of_below (by repeat (first | exact Below.refl _ _ | assumption | refine bel_drew ?_ | refine bel_drewN ?_ _ | refine bel_alloc ?_ _ | refine bel_trans ?_ (by assumption)))))); clear hKW KW; (try simp only [Act.put, List.setIfInBounds_toArray, List.set_cons_zero, List.set_cons_succ])
        refine tk_call 4 rfl (by kernel_rfl) (by kernel_rfl) (fun KW hKW => ?_); go_simp; refine hKW.out _ _ ?_ (fun hHeld => ?_); (focus ((try dsimp only); first | exact KS.out _ hc7.out | exact KS.out _ (hc7.out.set (.inl rfl) _) | exact KS.out _ (Chg.of_below (by repeat (first | exact Below.refl _ _ | assumption | refine bel_drew ?_ | refine bel_drewN ?_ _ | refine bel_alloc ?_ _ | refine bel_trans ?_ (by assumption)))))); clear hKW KW; (try simp only [Act.put, List.setIfInBounds_toArray, List.set_cons_zero, List.set_cons_succ])
        refine tk_call 7 rfl (by kernel_rfl) (by kernel_rfl) (fun KW hKW => ?_); refine app_operT (.tmp 98) (.tmp 100) rfl B vg gr rfl (HO13.out.keep (by repeat (first | exact Below.refl _ _ | assumption | refine bel_drew ?_ | refine bel_drewN ?_ _ | refine bel_alloc ?_ _ | refine bel_trans ?_ (by assumption)))) (some ⟨_, 0, none⟩) 1 1 [(a0, a1, a2, 2, a4)] rfl (src_oneT (RowA.new _ 51 _)) HL7.out (Nat.le_trans HB13.out (Below.size (by repeat (first | exact Below.refl _ _ | assumption | refine bel_drew ?_ | refine bel_drewN ?_ _ | refine bel_alloc ?_ _ | refine bel_trans ?_ (by assumption))))) ?_; intro v7 w7 ho7 hg7 hor7; obtain ⟨A7, n7, c7, rfl⟩ := ho7.form; have hc7' := Chg.trans (own := fun q => vg.ownBlock = some q) (a := W13) (Chg.of_below (by repeat (first | exact Below.refl _ _ | assumption | refine bel_drew ?_ | refine bel_drewN ?_ _ | refine bel_alloc ?_ _ | refine bel_trans ?_ (by assumption)))) (Chg.of_grown hg7 (fun _ e => e)); have r7 := HR13.out.chg hc7' (fun e => (H.out.n4 _ e).2.2 rfl); have hc7 := hc7'.mono (own' := fun q => q = rb ∨ vg.ownBlock = some q) (fun _ _ e => .inr e); clear hc7'; have z0 := (r7.cell 0).trans rfl; have f0 := r7.frozen 0; replace ho7 := Lib.hid ho7; replace hor7 := Lib.hid hor7; replace hc7 := Lib.hid hc7; replace r7 := Lib.hid r7; clear hg7; refine hKW.out _ _ ?_ (fun hHeld => ?_); (focus ((try dsimp only); first | exact KS.out _ hc7.out | exact KS.out _ (hc7.out.set (.inl rfl) _) | exact KS.out _ (Chg.of_below (by repeat (first | exact Below.refl _ _ | assumption | refine bel_drew ?_ | refine bel_drewN ?_ _ | refine bel_alloc ?_ _ | refine bel_trans ?_ (by assumption)))))); clear hKW KW; (try simp only [Act.put, List.setIfInBounds_toArray, List.set_cons_zero, List.set_cons_succ])
        refine tk_yes 8 (v := ?_) rfl (by kernel_rfl) (by kernel_rfl) (by kernel_rfl) (fun _ _ _ h => h) (by kernel_rfl) (by assumption) ?_ ?_; rotate_left; (focus (intro w hSw; (try dsimp only at hSw); go_simp; (first | done | (with_reducible rfl)))); (try simp only [Act.put, List.setIfInBounds_toArray, List.set_cons_zero, List.set_cons_succ])
        refine tk_yes 9 (v := ?_) rfl (by kernel_rfl) (by kernel_rfl) (by kernel_rfl) (fun _ _ _ h => h) (by kernel_rfl) (by assumption) ?_ ?_; rotate_left; (focus (intro w hSw; (try dsimp only at hSw); go_simp; (first | done | (with_reducible rfl)))); (try simp only [Act.put, List.setIfInBounds_toArray, List.set_cons_zero, List.set_cons_succ])
        refine tk_call 10 rfl (by kernel_rfl) (by kernel_rfl) (fun KW hKW => ?_); go_simp; refine hKW.out _ _ ?_ (fun hHeld => ?_); (focus ((try dsimp only); first | exact KS.out _ hc7.out | exact KS.out _ (hc7.out.set (.inl rfl) _) | exact KS.out _ (Chg.of_below (by repeat (first | exact Below.refl _ _ | assumption | refine bel_drew ?_ | refine bel_drewN ?_ _ | refine bel_alloc ?_ _ | refine bel_trans ?_ (by assumption)))))); clear hKW KW; (try simp only [Act.put, List.setIfInBounds_toArray, List.set_cons_zero, List.set_cons_succ])
        refine wpAnyH_done (by kernel_rfl) ?_ _
        go_upto_region 14 with (fail)
        refine region_nameL ?_
        rintro W14 hW14
        have C14 : Chg (fun q => q = rb) w7 W14 := by rw [hW14]; exact (Chg.refl (fun q => q = rb) w7).set (p := ⟨rb, 0, none⟩) rfl _
        have hcA : Chg (fun q => q = rb ∨ vg.ownBlock = some q) W13 W14 := hc7.out.trans (C14.mono (fun _ _ e => .inl e))
        have r14 : RowA W14 rb 56 [.slice A7 n7 c7, .slice (some ⟨bl, 0, none⟩) (j + m) c, .slice (some ⟨bm, 0, none⟩) mn mn, .int .i64 (fr - a2)] := by rw [hW14]; exact r7.out.set_ 0 _
        have nvr : ∀ q, q = rb ∨ vg.ownBlock = some q → q < ws := fun q e => e.elim (fun e => by omega) (fun e => HLGV.out q e)
        have w514 := HW5.out.chg hcA (fun e => by have := nvr _ e; omega)
        have w414 := HW4.out.chg hcA (fun e => by have := nvr _ e; omega)
        have m14 := HM13.out.chg hcA (fun e => e.elim (fun e => H.out.n3 e.symm) (fun e => (H.out.n4 _ e).2.1 rfl))
        have l14 := HL13.out.chg hcA (fun q e => by cases e; exact fun e => e.elim (fun e => nrl e.symm) (fun e => (H.out.n4 _ e).1 rfl))
        have lv7 : ∀ q, (Value.slice A7 n7 c7).ownBlock = some q → (q ≠ bl ∧ q ≠ bm ∧ q ≠ rb) ∧ q ≠ ws ∧ (vg.ownBlock = some q ∨ ws ≤ q) := fun q e => by
          rcases hor7.out with e2 | e2
          · have e3 := e2.symm.trans e
            have e4 := HLGV.out q e3
            exact ⟨H.out.n4 q e3, by omega, .inl e3⟩
          · have e3 := Option.some.inj (e2.symm.trans e)
            simp at e3
            exact ⟨⟨by omega, by omega, by omega⟩, by omega, .inr (by omega)⟩
        have o14 := ho7.out.chg C14 (fun q e e2 => (lv7 q e).1.2.2 e2)
        have CW14 : Chg (fun q => (q = rb ∨ q = bl ∨ q = bm ∨ q = ws + 1) ∨ vg.ownBlock = some q) W1 W14 := (HCW13.out.mono (fun _ _ e => .inl e)).trans (hcA.mono (fun _ _ e => e.elim (fun e => .inl (.inl e)) .inr))
        have s0 := (w514.cell 0).trans rfl
        have s1 := (w514.cell 1).trans rfl
        have s2 := (w514.cell 2).trans rfl
        have s3 := (w514.cell 3).trans rfl
        have s4 := (w514.cell 4).trans rfl
        have v0 := (w414.cell 0).trans rfl
        have v1 := (w414.cell 1).trans rfl
        have v2 := (w414.cell 2).trans rfl
        have v3 := (w414.cell 3).trans rfl
        have v4 := (w414.cell 4).trans rfl
        have g0 := w414.frozen 0
        have g1 := w414.frozen 1
        have g2 := w414.frozen 2
        have g3 := w414.frozen 3
        have g4 := w414.frozen 4
        have HR14 := Lib.hid r14
        have HM14 := Lib.hid m14
        have HL14 := Lib.hid l14
        have HO14 := Lib.hid o14
        have HW14 := Lib.hid w414
        have HCW14 := Lib.hid CW14
        have HV7 := Lib.hid lv7
        have HS7 := Lib.hid hc7.size
        clear hW14 C14 hcA r14 w514 w414 m14 l14 o14 CW14 z0 f0 hc7 qa qb KS r7 lv7 ho7
        go_wp2_with fail
        obtain ⟨W15, hW15⟩ : ∃ W15, (((((W14.setCell ⟨ws, 0, none⟩ (.int .i64 a0)).setCell ⟨ws, 1, none⟩ (.int .i64 a1)).setCell ⟨ws, 2, none⟩ (.int .i64 a2)).setCell ⟨ws, 3, none⟩ (.int .i64 2)).setCell ⟨ws, 4, none⟩ (.int .i64 a4)) = W15 := ⟨_, rfl⟩
        rw [hW15]
        have C15 : Chg (fun q => q = ws) W14 W15 := by rw [← hW15]; exact (((((Chg.refl (fun q => q = ws) W14).set (p := ⟨ws, 0, none⟩) rfl _).set (p := ⟨ws, 1, none⟩) rfl _).set (p := ⟨ws, 2, none⟩) rfl _).set (p := ⟨ws, 3, none⟩) rfl _).set (p := ⟨ws, 4, none⟩) rfl _
        have w15 : RowA W15 ws 51 [.int .i64 a0, .int .i64 a1, .int .i64 a2, .int .i64 2, .int .i64 a4] := by rw [← hW15]; exact ((((HW14.out.set_ 0 _).set_ 1 _).set_ 2 _).set_ 3 _).set_ 4 _
        have y0 := (w15.cell 0).trans rfl
        have y1 := (w15.cell 1).trans rfl
        have y2 := (w15.cell 2).trans rfl
        have y3 := (w15.cell 3).trans rfl
        have y4 := (w15.cell 4).trans rfl
        clear hW15 s0 s1 s2 s3 s4 v0 v1 v2 v3 v4 g0 g1 g2 g3 g4
        refine bodyPost_ret (v := .agg #[.int .i64 a0, .int .i64 a1, .int .i64 a2, .int .i64 2, .int .i64 a4]) (by simp [results, Try.results89, go_sem, y0, y1, y2, y3, y4]) rfl ⟨by rw [HT.out], .slice A7 n7 c7, ?_, ?_, ?_⟩
        · have hL : (GN.gleft S.left j).length = j + m := by have := GN.gleft_len HG.out.lt; have := HM.out; omega
          have eF : (GN.step S j).free = fr - a2 := by show S.free - GN.cnt (GN.tk S j) = _; rw [HFR.out, HT.out]; rfl
          have eT : GN.gtold (GN.tk S j) = (a0, a1, a2, 2, a4) := by rw [HT.out]; rfl
          have eM : (GN.step S j).ms = S.ms.set jj (SK.give (S.ms.getD jj PO.m0) a2) := by show GN.gms S j = _; unfold GN.gms; rw [HJJ.out, HT.out]; rfl
          have tb := H.out.bt (S.left.getD j SK.t0) (by rw [tick_getD HG.out.lt]; exact List.getElem_mem _)
          have eS : S.left.getD j SK.t0 = (a0, a1, a2, a3, a4) := HT.out
          rw [eS] at tb
          have rr := (PA.right_iff _ _ _).1 gok
          refine ⟨?_, ?_, ?_, ?_, ?_, ?_, ?_, ?_, H.out.n1, H.out.n2, H.out.n3, fun q e => (HV7.out q e).1, H.out.b1, H.out.b2, H.out.b3, ?_, ?_, ?_⟩
          · rw [show (GN.step S j).left.length = j + m from hL, GN.step_ms, HMN.out, eF]; exact HR14.out.chg C15 (by omega)
          · rw [eT]; exact HO14.out.chg C15 (fun q e e2 => (HV7.out q e).2.1 e2)
          · have := HL14.out.chg C15 (fun q e => by cases e; exact (show ¬ bl = ws by omega))
            rw [lbump_del HG.out.lt] at this
            rw [show (GN.step S j).left.length = j + m from hL]
            exact this
          · rw [eM]; exact HM14.out.chg C15 (by omega)
          · intro t ht
            rcases List.mem_append.1 ht with h1 | h1
            · obtain ⟨u, hu, rfl⟩ := List.mem_map.1 h1
              exact bump_bd (H.out.bt u (List.mem_of_mem_take hu))
            · exact H.out.bt t (List.mem_of_mem_drop h1)
          · intro t ht
            rcases List.mem_append.1 ht with h1 | h1
            · exact H.out.bg t h1
            · rw [List.mem_singleton.1 h1, eT]; exact ⟨tb.1, tb.2.1, tb.2.2.1, (by show _ ≤ (2 : Int) ∧ (2 : Int) ≤ _; omega), tb.2.2.2.2⟩
          · rw [eM]
            intro q hq
            rcases List.mem_or_eq_of_mem_set hq with h1 | h1
            · exact H.out.bms q h1
            · rw [h1, HI.out]; exact ⟨ybd.1, ybd.2.1, (by show _ ≤ i2 + a2 ∧ i2 + a2 ≤ _; omega), (by show _ ≤ i3 - a2 ∧ i3 - a2 ≤ _; omega)⟩
          · rw [eF]; unfold Bd; omega
          · have := H.out.len; have := HM.out; rw [List.length_append, show (GN.step S j).left.length = j + m from hL]; simp only [List.length_cons, List.length_nil]; omega
          · rw [GN.step_ms]; exact H.out.lm
          · have := C15.size; have := HCW14.out.size; have := HB13.out; have := H.out.bw; rw [HWS.out] at this; omega
        · refine (((Chg.of_below (own := fun q => resOwn rb bl bm vg q ∨ ws ≤ q) HB1.out).trans (HCW14.out.mono (fun q _ e => ?_))).trans (C15.mono (fun q _ e => .inr (by omega)))).mono (fun q hq e => ?_)
          · rcases e with (e | e | e | e) | e
            · exact .inl (.inl e)
            · exact .inl (.inr (.inl e))
            · exact .inl (.inr (.inr (.inl e)))
            · exact .inr (by omega)
            · exact .inl (.inr (.inr (.inr e)))
          · rcases e with e | e
            · exact e
            · rw [HWS.out] at hq; omega
        · intro q e
          rw [HWS.out]
          exact (HV7.out q e).2.2
end Go.Proofs.Ythmjbfocpdiikaa
/-
  Layer 35 (grant): the iterator of grants.
-/
namespace Go.Proofs.Ythmjbfocpdiikaa
open Go.RowKit
set_option linter.unusedVariables false
set_option linter.unusedSimpArgs false
attribute [local go_sem] drewN_alloc drewN_setCell Oper.semAt_some


variable {w w' : World}
def encT (t : SK.Tick) : Value := .agg #[.int .i64 t.1, .int .i64 t.2.1, .int .i64 t.2.2.1, .int .i64 t.2.2.2.1, .int .i64 t.2.2.2.2]
/-- Where a round of the iterator stands. -/
structure ItSt (B rb bl bm c : Nat) (wt : Int) (b : Bool) (gr0 : List SK.Tick) (S0 : GN.St) (vg0 : Value) (W : World) (F : Nat → Prop) (gr : List SK.Tick) (S : GN.St) (vg : Value) (wr : World) : Prop where
  at_ : ResAt B wr rb gr S vg bl bm c
  far : ∀ k, resOwn rb bl bm vg k → ¬ F k
  chg : Chg (fun k => F k ∨ resOwn rb bl bm vg0 k) W wr
  new : ∀ k, vg.ownBlock = some k → vg0.ownBlock = some k ∨ W.heap.size ≤ k
  run1 : gr ++ (GN.run S.left.length wt S).1 = gr0 ++ (GN.run S0.left.length wt S0).1
  run2 : (GN.run S.left.length wt S).2 = (GN.run S0.left.length wt S0).2
  stay : b = false → gr = gr0 ∧ S = S0 ∧ vg = vg0
def lenAt (rb : Nat) (wr : World) : Nat := match wr.cell? ⟨rb, 1, none⟩ with | some (.slice _ n _) => n | _ => 0
/-- What the iterator gives. -/
def GivesIt (B rb bl bm c : Nat) (wt : Int) (b : Bool) (gr0 : List SK.Tick) (S0 : GN.St) (vg0 : Value) (W : World) (F : Nat → Prop) (J : World → Prop) (J' : List SK.Tick → GN.St → Value → World → Prop) (e : Ending) (W' : World) : Prop :=
  (∃ v, e = .returned v) ∧ ∃ gr S vg, ResAt B W' rb gr S vg bl bm c ∧ (∀ k, resOwn rb bl bm vg k → ¬ F k) ∧ Chg (fun k => F k ∨ resOwn rb bl bm vg0 k) W W' ∧ (∀ k, vg.ownBlock = some k → vg0.ownBlock = some k ∨ W.heap.size ≤ k) ∧
    ((J W' ∧ GN.nx S wt = -1 ∧ (b = false → gr = gr0 ∧ S = S0) ∧ gr = gr0 ++ (GN.run S0.left.length wt S0).1 ∧ S = (GN.run S0.left.length wt S0).2) ∨
     (b = false ∧ J' gr S vg W' ∧ ∃ k : Nat, GN.nx S0 wt = k ∧ GN.Goes S0 wt k ∧ gr = gr0 ++ [GN.gtold (GN.tk S0 k)] ∧ S = GN.step S0 k))
def ItRel (B rb bl bm c : Nat) (wt : Int) (b : Bool) (gr0 : List SK.Tick) (S0 : GN.St) (vg0 : Value) (W : World) (F : Nat → Prop) (J : World → Prop) (wr : World) : Prop := ∃ gr S vg, ItSt B rb bl bm c wt b gr0 S0 vg0 W F gr S vg wr ∧ J wr
theorem ItSt.keep {B rb bl bm c : Nat} {wt : Int} {b : Bool} {gr0 gr : List SK.Tick} {S0 S : GN.St} {vg0 vg : Value} {W : World} {F : Nat → Prop} (h : ItSt B rb bl bm c wt b gr0 S0 vg0 W F gr S vg w) (hb : Below w.heap.size w w') : ItSt B rb bl bm c wt b gr0 S0 vg0 W F gr S vg w' :=
  ⟨h.at_.keep hb, h.far, h.chg.trans (Chg.of_below hb), h.new, h.run1, h.run2, h.stay⟩
theorem lenAt_of {B rb bl bm c : Nat} {gr : List SK.Tick} {S : GN.St} {vg : Value} (h : ResAt B w rb gr S vg bl bm c) : lenAt rb w = S.left.length := by
  have e : w.cell? ⟨rb, 1, none⟩ = some (.slice (some ⟨bl, 0, none⟩) S.left.length c) := (h.row.cell 1).trans rfl
  unfold lenAt
  rw [e]
theorem it_no {B rb bl bm c : Nat} {wt : Int} {b : Bool} {gr0 gr : List SK.Tick} {S0 S : GN.St} {vg0 vg : Value} {W : World} {F : Nat → Prop} {J : World → Prop} {J' : List SK.Tick → GN.St → Value → World → Prop} {v : Value}
    (h : ItSt B rb bl bm c wt b gr0 S0 vg0 W F gr S vg w) (hj : J w) (hn : GN.nx S wt = -1) : GivesIt B rb bl bm c wt b gr0 S0 vg0 W F J J' (.returned v) w := by
  refine ⟨⟨v, rfl⟩, gr, S, vg, h.at_, h.far, h.chg, h.new, .inl ⟨hj, hn, fun e => ⟨(h.stay e).1, (h.stay e).2.1⟩, ?_, ?_⟩⟩
  · have := h.run1; rw [GN.run_no hn, List.append_nil] at this; exact this
  · have := h.run2; rw [GN.run_no hn] at this; exact this
/-- A round that grants, with b = true. -/
def ItNext (B rb bl bm c : Nat) (wt : Int) (b : Bool) (gr0 : List SK.Tick) (S0 : GN.St) (vg0 : Value) (W : World) (F : Nat → Prop) (gr : List SK.Tick) (S : GN.St) (k : Nat) (vg5 : Value) (u5 : World) : Prop :=
  ∀ w', Chg F u5 w' → ResAt B w' rb (gr ++ [GN.gtold (GN.tk S k)]) (GN.step S k) vg5 bl bm c ∧ (∀ q, resOwn rb bl bm vg5 q → ¬ F q) ∧ Chg (fun k => F k ∨ resOwn rb bl bm vg0 k) W w' ∧ (∀ q, vg5.ownBlock = some q → vg0.ownBlock = some q ∨ W.heap.size ≤ q) ∧
    (gr ++ [GN.gtold (GN.tk S k)]) ++ (GN.run (GN.step S k).left.length wt (GN.step S k)).1 = gr0 ++ (GN.run S0.left.length wt S0).1 ∧ (GN.run (GN.step S k).left.length wt (GN.step S k)).2 = (GN.run S0.left.length wt S0).2 ∧ (GN.step S k).left.length + 1 = S.left.length
theorem it_yes {B rb bl bm c k : Nat} {wt : Int} {b : Bool} {gr0 gr : List SK.Tick} {S0 S : GN.St} {vg0 vg vg5 : Value} {W u5 : World} {F : Nat → Prop}
    (h : ItSt B rb bl bm c wt b gr0 S0 vg0 W F gr S vg w) (hn : GN.nx S wt = k) (hg : GN.Goes S wt k) (hat : ResAt B u5 rb (gr ++ [GN.gtold (GN.tk S k)]) (GN.step S k) vg5 bl bm c) (hc : Chg (resOwn rb bl bm vg) w u5)
    (hw : ∀ j, vg5.ownBlock = some j → vg.ownBlock = some j ∨ w.heap.size ≤ j) (far : ∀ q, resOwn rb bl bm vg5 q → ¬ F q) : ItNext B rb bl bm c wt b gr0 S0 vg0 W F gr S k vg5 u5 := by
  intro w' hcw
  have hl := GN.step_len hg
  have hz := h.chg.size
  have e : GN.run S.left.length wt S = (GN.gtold (GN.tk S k) :: (GN.run (GN.step S k).left.length wt (GN.step S k)).1, (GN.run (GN.step S k).left.length wt (GN.step S k)).2) := by rw [← hl]; exact GN.run_yes hn
  refine ⟨hat.chg hcw far, far, (((h.chg.mono (own' := fun q => (F q ∨ resOwn rb bl bm vg0 q) ∨ W.heap.size ≤ q) (fun q _ e => .inl e)).trans (hc.mono (fun q _ e => ?_))).trans (hcw.mono (fun q _ e => .inl (.inl e)))).mono (fun q hq e => e.elim id (fun e => absurd e (by omega))), fun q e => ?_, ?_, ?_, hl⟩
  · rcases e with e | e | e | e
    · exact .inl (.inr (.inl e))
    · exact .inl (.inr (.inr (.inl e)))
    · exact .inl (.inr (.inr (.inr (.inl e))))
    · rcases h.new q e with h1 | h1
      · exact .inl (.inr (.inr (.inr (.inr h1))))
      · exact .inr h1
  · rcases hw q e with h1 | h1
    · exact h.new q h1
    · exact .inr (by omega)
  · have := h.run1
    rw [e] at this
    rw [List.append_assoc]; exact this
  · have := h.run2
    rw [e] at this
    exact this
set_option maxRecDepth 100000 in
set_option maxHeartbeats 16000000 in
theorem grants_iter {B rb bl bm c L pb wb : Nat} {gr0 : List SK.Tick} {S0 : GN.St} {vg0 : Value} {wt : Int} (b : Bool) {W : World} (F : Nat → Prop) (J : World → Prop) (J' : List SK.Tick → GN.St → Value → World → Prop)
    (h : ResAt B W rb gr0 S0 vg0 bl bm c) (cp : W.cell? ⟨pb, 0, none⟩ = some (.pointer (some ⟨rb, 0, none⟩))) (cw : W.cell? ⟨wb, 0, none⟩ = some (.int .i64 wt)) (hw : Bd wt)
    (hF : ∀ k, F k → k < W.heap.size) (hR : ∀ k, resOwn rb bl bm vg0 k → ¬ F k) (np : ¬ resOwn rb bl bm vg0 pb) (nw : ¬ resOwn rb bl bm vg0 wb) (fp : ¬ F pb) (fw : ¬ F wb)
    (hJ : ∀ A A', J A → Chg (fun k => ¬ F k) A A' → J A') (hJ' : ∀ gr S vg A A', J' gr S vg A → Chg (fun k => ¬ F k) A A' → J' gr S vg A')
    (hY : ∀ gr S vg t W1, J W1 → ResAt B W1 rb gr S vg bl bm c → (∀ k, resOwn rb bl bm vg k → ¬ F k) → W.heap.size ≤ W1.heap.size → ∀ m, YieldAt Fence.wide m Try.prog L #[encT t] W1 fun e W' => e = .returned (.bool b) ∧ Chg F W1 W' ∧ (b = true → J W') ∧ (b = false → J' gr S vg W'))
    (h0 : J W) :
    Calls Try.prog 88 #[.func (.yield L) #[] #[], .pointer (some ⟨pb, 0, none⟩), .pointer (some ⟨wb, 0, none⟩)] W (GivesIt B rb bl bm c wt b gr0 S0 vg0 W F J J') := by
  have lp := World.block_lt_of_cell? _ _ cp
  have lw := World.block_lt_of_cell? _ _ cw
  dsimp only at lp lw
  have HST : Hid (∀ wr, Below W.heap.size W wr → ItRel B rb bl bm c wt b gr0 S0 vg0 W F J wr) := Lib.hid (fun wr hb => ⟨gr0, S0, vg0, ⟨h.keep hb, hR, Chg.of_below hb, fun k e => .inl e, rfl, rfl, fun _ => ⟨rfl, rfl, rfl⟩⟩, hJ _ _ h0 (Chg.of_below hb)⟩)
  have KC : Hid (∀ wr, Chg (fun k => F k ∨ resOwn rb bl bm vg0 k) W wr → wr.cell? ⟨pb, 0, none⟩ = some (.pointer (some ⟨rb, 0, none⟩)) ∧ wr.cell? ⟨wb, 0, none⟩ = some (.int .i64 wt)) := Lib.hid (fun wr hc =>
    ⟨(World.cell?_of_block (a := ⟨pb, 0, none⟩) (hc.block pb lp (fun e => e.elim fp np))).trans cp, (World.cell?_of_block (a := ⟨wb, 0, none⟩) (hc.block wb lw (fun e => e.elim fw nw))).trans cw⟩)
  have HY := Lib.hid hY
  have HJ := Lib.hid hJ
  have HJ' := Lib.hid hJ'
  have HF := Lib.hid hF
  have LP := Lib.hid lp
  have LW := Lib.hid lw
  clear h cp cw hF hR np nw fp fw hJ hJ' hY h0 lp lw
  go_enter Try.func88, Try.ntmps88
  go_wp2_with fail
  go_loopw [4] (fun _ wr => ItRel B rb bl bm c wt b gr0 S0 vg0 W F J wr) (fun _ wr => lenAt rb wr)
  case atStart => exact HST.out _ (by repeat (first | exact Below.refl _ _ | assumption | refine bel_drew ?_ | refine bel_drewN ?_ _ | refine bel_alloc ?_ _ | refine bel_trans ?_ (by assumption)))
  case round =>
    clear HST
    obtain ⟨gr, S, vg, ht, hj⟩ := hrel
    obtain ⟨n, hn⟩ : ∃ n, S.left.length = n := ⟨_, rfl⟩
    obtain ⟨mn, hmn⟩ : ∃ mn, S.ms.length = mn := ⟨_, rfl⟩
    obtain ⟨fr, hfr⟩ : ∃ fr, S.free = fr := ⟨_, rfl⟩
    have hat := ht.at_
    have hrow := hat.row
    rw [hn, hmn, hfr] at hrow
    have KS : Hid (∀ W' : World, Below wr.heap.size wr W' → (fun W : World => W.cell? ⟨pb, 0, none⟩ = some (.pointer (some ⟨rb, 0, none⟩)) ∧ W.cell? ⟨wb, 0, none⟩ = some (.int .i64 wt) ∧ W.cell? ⟨rb, 1, none⟩ = some (.slice (some ⟨bl, 0, none⟩) n c) ∧ W.cell? ⟨rb, 2, none⟩ = some (.slice (some ⟨bm, 0, none⟩) mn mn) ∧ W.cell? ⟨rb, 3, none⟩ = some (.int .i64 fr)) W') := Lib.hid (fun W' hb => by
      have h1 := KC.out _ (ht.chg.trans (Chg.of_below hb))
      have r := hrow.keep hb
      exact ⟨h1.1, h1.2, (r.cell 1).trans rfl, (r.cell 2).trans rfl, (r.cell 3).trans rfl⟩)
    have KN : Hid (∀ W', Below wr.heap.size wr W' → Calls Try.prog 34 #[.slice (some ⟨bl, 0, none⟩) n c, .int .i64 fr, .int .i64 wt, .slice (some ⟨bm, 0, none⟩) mn mn] W' fun e w' => e = .returned (.int .i64 (GN.nx S wt)) ∧ Below W'.heap.size W' w') := Lib.hid (fun W' hb => by
      have h1 := hat.keep hb
      have h2 := h1.tick
      have h3 := h1.members
      have h4 := hat.bf
      have h5 := hat.lm
      rw [hn] at h2
      rw [hmn] at h3 h5
      rw [hfr] at h4
      have := skip_Next c mn fr wt h2.1 h3 h5 h4 hw h2.2.1 h2.2.2
      rw [← hfr] at this ⊢
      exact this)
    have HT := Lib.hid ht
    have HJJ := Lib.hid hj
    have HN := Lib.hid hn
    clear ht hj hn hmn hfr hat hrow
    have HW := Lib.hid hw
    go_upto_region 0 with (fail)
    refine wp_region_held_drew (S := (fun W : World => W.cell? ⟨pb, 0, none⟩ = some (.pointer (some ⟨rb, 0, none⟩)) ∧ W.cell? ⟨wb, 0, none⟩ = some (.int .i64 wt) ∧ W.cell? ⟨rb, 1, none⟩ = some (.slice (some ⟨bl, 0, none⟩) n c) ∧ W.cell? ⟨rb, 2, none⟩ = some (.slice (some ⟨bm, 0, none⟩) mn mn) ∧ W.cell? ⟨rb, 3, none⟩ = some (.int .i64 fr))) (by kernel_rfl) ?_ (fun hHeld => ?_)
    focus ((try dsimp only); first | exact q | exact KS.out _ (by repeat (first | exact Below.refl _ _ | assumption | refine bel_drew ?_ | refine bel_drewN ?_ _ | refine bel_alloc ?_ _ | refine bel_trans ?_ (by assumption))))
    refine tk_yes 0 (v := ?_) rfl (by kernel_rfl) (by kernel_rfl) (by kernel_rfl) (fun _ _ _ h => h) (by kernel_rfl) (by assumption) ?_ ?_; rotate_left; (focus (intro w hSw; (try dsimp only at hSw); go_simp; (first | done | (with_reducible rfl)))); (try simp only [Act.put, List.setIfInBounds_toArray, List.set_cons_zero, List.set_cons_succ])
    refine tk_yes 1 (v := ?_) rfl (by kernel_rfl) (by kernel_rfl) (by kernel_rfl) (fun _ _ _ h => h) (by kernel_rfl) (by assumption) ?_ ?_; rotate_left; (focus (intro w hSw; (try dsimp only at hSw); go_simp; (first | done | (with_reducible rfl)))); (try simp only [Act.put, List.setIfInBounds_toArray, List.set_cons_zero, List.set_cons_succ])
    refine tk_yes 2 (v := ?_) rfl (by kernel_rfl) (by kernel_rfl) (by kernel_rfl) (fun _ _ _ h => h) (by kernel_rfl) (by assumption) ?_ ?_; rotate_left; (focus (intro w hSw; (try dsimp only at hSw); go_simp; (first | done | (with_reducible rfl)))); (try simp only [Act.put, List.setIfInBounds_toArray, List.set_cons_zero, List.set_cons_succ])
    refine tk_yes 3 (v := ?_) rfl (by kernel_rfl) (by kernel_rfl) (by kernel_rfl) (fun _ _ _ h => h) (by kernel_rfl) (by assumption) ?_ ?_; rotate_left; (focus (intro w hSw; (try dsimp only at hSw); go_simp; (first | done | (with_reducible rfl)))); (try simp only [Act.put, List.setIfInBounds_toArray, List.set_cons_zero, List.set_cons_succ])
    refine tk_yes 4 (v := ?_) rfl (by kernel_rfl) (by kernel_rfl) (by kernel_rfl) (fun _ _ _ h => h) (by kernel_rfl) (by assumption) ?_ ?_; rotate_left; (focus (intro w hSw; (try dsimp only at hSw); go_simp; (first | done | (with_reducible rfl)))); (try simp only [Act.put, List.setIfInBounds_toArray, List.set_cons_zero, List.set_cons_succ])
    refine tk_yes 5 (v := ?_) rfl (by kernel_rfl) (by kernel_rfl) (by kernel_rfl) (fun _ _ _ h => h) (by kernel_rfl) (by assumption) ?_ ?_; rotate_left; (focus (intro w hSw; (try dsimp only at hSw); go_simp; (first | done | (with_reducible rfl)))); (try simp only [Act.put, List.setIfInBounds_toArray, List.set_cons_zero, List.set_cons_succ])
    refine tk_yes 6 (v := ?_) rfl (by kernel_rfl) (by kernel_rfl) (by kernel_rfl) (fun _ _ _ h => h) (by kernel_rfl) (by assumption) ?_ ?_; rotate_left; (focus (intro w hSw; (try dsimp only at hSw); go_simp; (first | done | (with_reducible rfl)))); (try simp only [Act.put, List.setIfInBounds_toArray, List.set_cons_zero, List.set_cons_succ])
    refine tk_yes 7 (v := ?_) rfl (by kernel_rfl) (by kernel_rfl) (by kernel_rfl) (fun _ _ _ h => h) (by kernel_rfl) (by assumption) ?_ ?_; rotate_left; (focus (intro w hSw; (try dsimp only at hSw); go_simp; (first | done | (with_reducible rfl)))); (try simp only [Act.put, List.setIfInBounds_toArray, List.set_cons_zero, List.set_cons_succ])
    refine tk_yes 8 (v := ?_) rfl (by kernel_rfl) (by kernel_rfl) (by kernel_rfl) (fun _ _ _ h => h) (by kernel_rfl) (by assumption) ?_ ?_; rotate_left; (focus (intro w hSw; (try dsimp only at hSw); go_simp; (first | done | (with_reducible rfl)))); (try simp only [Act.put, List.setIfInBounds_toArray, List.set_cons_zero, List.set_cons_succ])
    refine tk_yes 9 (v := ?_) rfl (by kernel_rfl) (by kernel_rfl) (by kernel_rfl) (fun _ _ _ h => h) (by kernel_rfl) (by assumption) ?_ ?_; rotate_left; (focus (intro w hSw; (try dsimp only at hSw); go_simp; (first | done | (with_reducible rfl)))); (try simp only [Act.put, List.setIfInBounds_toArray, List.set_cons_zero, List.set_cons_succ])
    refine tk_yes 10 (v := ?_) rfl (by kernel_rfl) (by kernel_rfl) (by kernel_rfl) (fun _ _ _ h => h) (by kernel_rfl) (by assumption) ?_ ?_; rotate_left; (focus (intro w hSw; (try dsimp only at hSw); go_simp; (first | done | (with_reducible rfl)))); (try simp only [Act.put, List.setIfInBounds_toArray, List.set_cons_zero, List.set_cons_succ])
    refine tk_yes 11 (v := ?_) rfl (by kernel_rfl) (by kernel_rfl) (by kernel_rfl) (fun _ _ _ h => h) (by kernel_rfl) (by assumption) ?_ ?_; rotate_left; (focus (intro w hSw; (try dsimp only at hSw); go_simp; (first | done | (with_reducible rfl)))); (try simp only [Act.put, List.setIfInBounds_toArray, List.set_cons_zero, List.set_cons_succ])
    refine tk_yes 12 (v := ?_) rfl (by kernel_rfl) (by kernel_rfl) (by kernel_rfl) (fun _ _ _ h => h) (by kernel_rfl) (by assumption) ?_ ?_; rotate_left; (focus (intro w hSw; (try dsimp only at hSw); go_simp; (first | done | (with_reducible rfl)))); (try simp only [Act.put, List.setIfInBounds_toArray, List.set_cons_zero, List.set_cons_succ])
    refine tk_call 13 rfl (by kernel_rfl) (by kernel_rfl) (fun KW hKW => ?_); go_simp; go_at_call 34; refine (KN.out _ (by repeat (first | exact Below.refl _ _ | assumption | refine bel_drew ?_ | refine bel_drewN ?_ _ | refine bel_alloc ?_ _ | refine bel_trans ?_ (by assumption)))).mono ?_; rintro e u4 ⟨rfl, hb4⟩; have B4 := bel_to (W0 := wr) (by repeat (first | exact Below.refl _ _ | assumption | refine bel_drew ?_ | refine bel_drewN ?_ _ | refine bel_alloc ?_ _ | refine bel_trans ?_ (by assumption))) hb4; have q := KS.out _ B4; clear hb4; refine hKW.out _ _ ?_ (fun hHeld => ?_); (focus ((try dsimp only); first | exact q | exact KS.out _ (by repeat (first | exact Below.refl _ _ | assumption | refine bel_drew ?_ | refine bel_drewN ?_ _ | refine bel_alloc ?_ _ | refine bel_trans ?_ (by assumption))))); clear hKW KW; (try simp only [Act.put, List.setIfInBounds_toArray, List.set_cons_zero, List.set_cons_succ])
    refine tk_yes 14 (v := ?_) rfl (by kernel_rfl) (by kernel_rfl) (by kernel_rfl) (fun _ _ _ h => h) (by kernel_rfl) (by assumption) ?_ ?_; rotate_left; (focus (intro w hSw; (try dsimp only at hSw); go_simp; (first | done | (with_reducible rfl)))); (try simp only [Act.put, List.setIfInBounds_toArray, List.set_cons_zero, List.set_cons_succ])
    refine wpAnyH_done (by kernel_rfl) ?_ _
    have HU : Hid (ItSt B rb bl bm c wt b gr0 S0 vg0 W F gr S vg u4) := Lib.hid (HT.out.keep B4)
    have HJU : Hid (J u4) := Lib.hid (HJ.out _ _ HJJ.out (Chg.of_below B4))
    have hpb := q.1
    have el := lenAt_of HT.out.at_
    rcases GN.goes_nx (S := S) (w := wt) with h1 | ⟨k, h1, h2⟩
    · have HNX := Lib.hid h1
      rw [h1]
      clear h1 KS KN q
      go_wp2_with fail
      go_end0
      exact it_no HU.out HJU.out HNX.out
    · have HNX := Lib.hid h1
      have HG := Lib.hid h2
      rw [h1]
      have k0 : (0 : Int) ≤ (k : Int) := by omega
      have k1 : ¬ ((k : Int) < 0) := by omega
      have KG := Lib.hid (grant_grant HU.out.at_ h2)
      have hjt := HJ.out
      clear h1 h2 KS KN q
      go_upto_region 1 with (fail)
      refine (wpIn_wide (n := 1)).1 ?_
      gi_wp2
      refine ⟨trivial, (callsIn_wide.2 KG.out).mono ?_⟩
      rintro e u5 ⟨rfl, vg5, hat5, hc5, hn5⟩
      have hz5 := hc5.size
      have hz4 := HU.out.chg.size
      have far5 : ∀ q, resOwn rb bl bm vg5 q → ¬ F q := fun q e => by
        rcases e with e | e | e | e
        · exact HU.out.far q (.inl e)
        · exact HU.out.far q (.inr (.inl e))
        · exact HU.out.far q (.inr (.inr (.inl e)))
        · rcases hn5 q e with h1 | h1
          · exact HU.out.far q (.inr (.inr (.inr h1)))
          · exact fun h2 => by have := HF.out q h2; omega
      have hj5 : J u5 := hjt _ _ HJU.out (hc5.mono (fun q _ e => HU.out.far q e))
      obtain ⟨fn, tmps, assign, body, hy, hR⟩ := HY.out _ _ _ (GN.gtold (GN.tk S k)) u5 hj5 hat5 far5 (by omega) 0
      have H5 := Lib.hid (it_yes HU.out HNX.out HG.out hat5 hc5 hn5 far5)
      clear hat5 hc5 hn5 far5 hj5 hz5 hz4 hjt
      unfold encT GN.gtold at hy
      dsimp only at hy
      gi_wp2
      refine hR.mono ?_
      rintro e W3 ⟨rfl, hc3, hj3, hs3⟩
      have H3 := Lib.hid (H5.out _ hc3)
      have HS3 := Lib.hid hs3
      have HJ3 := Lib.hid hj3
      have HC3 := Lib.hid hc3
      clear hc3 hj3 hs3 hy hR H5
      cases b with
      | true =>
        gi_wp2
        go_wp2_with fail
        go_roundw
        case rel => exact ⟨_, _, vg5, ⟨H3.out.1, H3.out.2.1, H3.out.2.2.1, H3.out.2.2.2.1, H3.out.2.2.2.2.1, H3.out.2.2.2.2.2.1, fun e => by cases e⟩, HJ3.out (by trivial)⟩
        case measure => rw [el, lenAt_of H3.out.1]; have := H3.out.2.2.2.2.2.2; omega
      | false =>
        gi_wp2
        go_wp2_with fail
        go_end0
        obtain ⟨rfl, rfl, rfl⟩ := HU.out.stay rfl
        exact ⟨⟨_, rfl⟩, _, _, vg5, H3.out.1, H3.out.2.1, H3.out.2.2.1, H3.out.2.2.2.1, .inr ⟨rfl, HS3.out (by trivial), k, HNX.out, HG.out, rfl, rfl⟩⟩
end Go.Proofs.Ythmjbfocpdiikaa
/-
  Layer 35 (grant): the range over the grants.
-/
namespace Go.Proofs.Ythmjbfocpdiikaa
open Go.RowKit
set_option linter.unusedVariables false
set_option linter.unusedSimpArgs false
attribute [local go_sem] drewN_alloc drewN_setCell Oper.semAt_some


variable {w w' : World}
theorem chg_putG {own : Nat → Prop} {A : World} {k : Nat} {o : Obj} (h : own k) : Chg own A (A.putObj k o) :=
  ⟨rfl, rfl, rfl, by simp, fun i _ hi => World.putObj_heap_other (fun e => hi (by subst e; exact h))⟩
def GivesFunc (rb : Nat) (wt : Int) (w : World) (e : Ending) (w' : World) : Prop :=
  e = .returned (.func (.func 88) #[] #[.pointer (some ⟨w.heap.size, 0, none⟩), .pointer (some ⟨w.heap.size + 1, 0, none⟩)]) ∧ (w.alloc (.cells #[.pointer (some ⟨rb, 0, none⟩)] 107)).alloc (.cells #[.int .i64 wt] 3) = w'
theorem grants_func (rb : Nat) (wt : Int) (w : World) : Calls Try.prog 67 #[.pointer (some ⟨rb, 0, none⟩), .int .i64 wt] w (GivesFunc rb wt w) := by
  go_enter Try.func67, Try.ntmps67
  go_wp2_with fail
  exact bodyPost_ret (v := .func (.func 88) #[] #[.pointer (some ⟨w.heap.size, 0, none⟩), .pointer (some ⟨w.heap.size + 1, 0, none⟩)]) (by simp [results, Try.results67, go_sem]) rfl ⟨rfl, rfl⟩
/-- How a round's body is left. -/
def bodyG (b : Bool) (D : Nat → Prop) (J0 : World → Prop) (Ix : World → Prop) (W : World) : Exit → Act → World → Prop
  | .normal, _, W' => b = true ∧ Chg D W W' ∧ J0 W'
  | .ret, _, W' => b = false ∧ Chg D W W' ∧ Ix W'
  | _, _, _ => False
theorem range_grants {B rb bl bm c pb wb n : Nat} {gr0 : List SK.Tick} {S0 : GN.St} {vg0 : Value} {wt : Int} (b : Bool) {g : Operand} {ps : Array Tmp} {assign body : Code} {Q : Exit → Act → World → Prop} {a : Act}
    (hg : a.eval g = .func (.func 88) #[] #[.pointer (some ⟨pb, 0, none⟩), .pointer (some ⟨wb, 0, none⟩)]) (hps : 1 = ps.size)
    (h : ResAt B w rb gr0 S0 vg0 bl bm c) (cp : w.cell? ⟨pb, 0, none⟩ = some (.pointer (some ⟨rb, 0, none⟩))) (cw : w.cell? ⟨wb, 0, none⟩ = some (.int .i64 wt)) (hw : Bd wt)
    (D : Nat → Prop) (hD : ∀ k, D k → k < w.heap.size) (hR : ∀ k, resOwn rb bl bm vg0 k → k < w.heap.size ∧ ¬ D k) (np : ¬ resOwn rb bl bm vg0 pb) (nw : ¬ resOwn rb bl bm vg0 wb) (fp : ¬ D pb) (fw : ¬ D wb)
    (J0 : World → Prop) (Ix : List SK.Tick → GN.St → Value → World → Prop) (hJ : ∀ A A', J0 A → Chg (fun k => ¬ D k) A A' → J0 A') (hIx : ∀ gr S vg A A', Ix gr S vg A → Chg (fun k => ¬ D k) A A' → Ix gr S vg A') (h0 : J0 w)
    (a₁ : SK.Tick → Act)
    (hassign : ∀ (l m : Nat) (x : SK.Tick) (W : World) (K : Act → World → Prop), K (a₁ x) W →
      assign.wpIn (Fence.wide.inRound l) m Try.prog (Exit.then K (fun _ _ _ => False)) { tmps := (ps.zip #[encT x]).foldl (fun t (p, v) => t.setIfInBounds p v) a.tmps, defers := [] } W)
    (hbody : ∀ (l m : Nat) (gr : List SK.Tick) (S : GN.St) (vg : Value) (x : SK.Tick) (W : World), J0 W → ResAt B W rb gr S vg bl bm c → (∀ k, resOwn rb bl bm vg k → ¬ D k) → body.wpIn (Fence.wide.inRound l) m Try.prog (bodyG b D J0 (Ix gr S vg) W) (a₁ x) W)
    (hdone : ∀ (gr : List SK.Tick) (S : GN.St) (vg : Value) (W : World), J0 W → ResAt B W rb gr S vg bl bm c → GN.nx S wt = -1 → (b = false → gr = gr0 ∧ S = S0) → gr = gr0 ++ (GN.run S0.left.length wt S0).1 → S = (GN.run S0.left.length wt S0).2 → (∀ k, vg.ownBlock = some k → vg0.ownBlock = some k ∨ w.heap.size ≤ k) → (∀ k, resOwn rb bl bm vg k → k ≠ w.heap.size) →
      Chg (fun k => D k ∨ resOwn rb bl bm vg0 k) w W → W.heap[w.heap.size]? = some (.deferred (some [])) → Q .normal { a with defers := { target := .collected w.heap.size, args := #[] } :: a.defers } W)
    (hstop : ∀ (gr : List SK.Tick) (S : GN.St) (vg : Value) (W : World) (k : Nat), b = false → Ix gr S vg W → ResAt B W rb gr S vg bl bm c → GN.nx S0 wt = k → GN.Goes S0 wt k → gr = gr0 ++ [GN.gtold (GN.tk S0 k)] → S = GN.step S0 k → (∀ k, vg.ownBlock = some k → vg0.ownBlock = some k ∨ w.heap.size ≤ k) → (∀ k, resOwn rb bl bm vg k → k ≠ w.heap.size) →
      Chg (fun k => D k ∨ resOwn rb bl bm vg0 k) w W → W.heap[w.heap.size]? = some (.deferred (some [])) → Code.ret.wpIn Fence.wide n Try.prog Q { a with defers := { target := .collected w.heap.size, args := #[] } :: a.defers } W) :
    (Code.rangeFunc g ps assign body).wpIn Fence.wide n Try.prog Q a w := by
  have lp := World.block_lt_of_cell? _ _ cp
  have lw := World.block_lt_of_cell? _ _ cw
  dsimp only at lp lw
  refine wpIn_rangeFunc ?_
  intro fn hfn
  have hro : Fence.wide.round = none := rfl
  rw [hro]
  obtain ⟨rec, hrec⟩ : ∃ rec : LoopState → Option Code → Loop, rec = fun st pe => { state := st, pending := pe, fn, tmps := a.tmps, params := ps, assign, body, defers := w.heap.size } := ⟨_, rfl⟩
  obtain ⟨W1, hW1⟩ : ∃ W1, (w.alloc (.deferred (some []))).alloc (.loop (rec .ready none)) = W1 := ⟨_, rfl⟩
  have hL1 : W1.heap[w.heap.size + 1]? = some (.loop (rec .ready none)) := by
    rw [← hW1]; have := World.alloc_heap_new (w.alloc (.deferred (some []))) (.loop (rec .ready none)); rwa [World.size_alloc] at this
  have hK1 : W1.heap[w.heap.size]? = some (.deferred (some [])) := by
    rw [← hW1]; exact (Below.heap_alloc _ _ _ (by simp)).trans (World.alloc_heap_new w _)
  have hb1 : Below w.heap.size w W1 := by rw [← hW1]; exact (by repeat (first | exact Below.refl _ _ | assumption | refine bel_drew ?_ | refine bel_drewN ?_ _ | refine bel_alloc ?_ _ | refine bel_set ?_ (by first | (dsimp only; omega) | (simp; done) | (simp; omega)) _ | refine bel_trans ?_ (by assumption)))
  have hs1 : W1.heap.size = w.heap.size + 2 := by rw [← hW1]; simp
  have h1 := h.keep hb1
  have hJ1 := hJ _ _ h0 (Chg.of_below hb1)
  obtain ⟨F, hF⟩ : ∃ F : Nat → Prop, F = fun k => D k ∨ k = w.heap.size ∨ k = w.heap.size + 1 := ⟨_, rfl⟩
  have hI := grants_iter (L := w.heap.size + 1) b F (fun W => J0 W ∧ W.heap[w.heap.size + 1]? = some (.loop (rec .ready none)) ∧ W.heap[w.heap.size]? = some (.deferred (some [])))
    (fun gr S vg W => Ix gr S vg W ∧ W.heap[w.heap.size + 1]? = some (.loop (rec .done (some .ret))) ∧ W.heap[w.heap.size]? = some (.deferred (some []))) h1 ((hb1.cell (p := ⟨pb, 0, none⟩) lp).trans cp) ((hb1.cell (p := ⟨wb, 0, none⟩) lw).trans cw) hw
    (fun k hk => by rw [hF] at hk; rcases hk with hk | hk | hk; have := hD k hk; omega; omega; omega)
    (fun k hk => by have := hR k hk; rw [hF]; rintro (e | e | e); exact this.2 e; omega; omega)
    np nw (by rw [hF]; rintro (e | e | e); exact fp e; omega; omega) (by rw [hF]; rintro (e | e | e); exact fw e; omega; omega)
    (fun A A' hA hc => ⟨hJ A A' hA.1 (hc.mono (fun k _ e e2 => e (by rw [hF]; exact .inl e2))), (hc.block _ (Array.getElem?_eq_some_iff.1 hA.2.1).1 (by rw [hF]; exact fun e => e (.inr (.inr rfl)))).trans hA.2.1, (hc.block _ (Array.getElem?_eq_some_iff.1 hA.2.2).1 (by rw [hF]; exact fun e => e (.inr (.inl rfl)))).trans hA.2.2⟩)
    (fun gr S vg A A' hA hc => ⟨hIx gr S vg A A' hA.1 (hc.mono (fun k _ e e2 => e (by rw [hF]; exact .inl e2))), (hc.block _ (Array.getElem?_eq_some_iff.1 hA.2.1).1 (by rw [hF]; exact fun e => e (.inr (.inr rfl)))).trans hA.2.1, (hc.block _ (Array.getElem?_eq_some_iff.1 hA.2.2).1 (by rw [hF]; exact fun e => e (.inr (.inl rfl)))).trans hA.2.2⟩)
    ?_ ⟨hJ1, hL1, hK1⟩
  · refine ⟨w.heap.size + 1, [{ target := .collected w.heap.size, args := #[] }], W1, { target := .fn (.func 88) #[.pointer (some ⟨pb, 0, none⟩), .pointer (some ⟨wb, 0, none⟩)], args := #[.func (.yield (w.heap.size + 1)) #[] #[]] }, W1, 88,
      #[.func (.yield (w.heap.size + 1)) #[] #[]] ++ #[.pointer (some ⟨pb, 0, none⟩), .pointer (some ⟨wb, 0, none⟩)], W1, ?_, ?_, ?_, ?_, fun h => by simp [Fence.wide] at h, callsIn_wide.2 ?_⟩
    · rw [← hW1, hrec]; exact run_enterLoop_outer _ _ _ _ _
    · simp only [resolve, hg]
      simp [go_sem]
    · intro f' hf'; trivial
    · simp [invoke, go_sem]
    refine hI.mono ?_
    rintro e W2 ⟨⟨v, rfl⟩, gr, S, vg, r1, r2, r3, r4, r5⟩
    have r3' : Chg (fun k => (D k ∨ resOwn rb bl bm vg0 k) ∨ w.heap.size ≤ k) w W2 := (Chg.of_below hb1).trans (r3.mono (fun k _ e => by rw [hF] at e; rcases e with (e | e | e) | e; exact .inl (.inl e); exact .inr (by omega); exact .inr (by omega); exact .inl (.inr e)))
    have hD1 : ¬ D (w.heap.size + 1) := fun e => by have := hD _ e; omega
    have hO1 : ∀ k, resOwn rb bl bm vg k → ¬ k = w.heap.size + 1 := fun k e e2 => r2 k e (by rw [hF]; exact .inr (.inr e2))
    have hO0 : ∀ k, resOwn rb bl bm vg k → k ≠ w.heap.size := fun k e e2 => r2 k e (by rw [hF]; exact .inr (.inl e2))
    have r4' : ∀ k, vg.ownBlock = some k → vg0.ownBlock = some k ∨ w.heap.size ≤ k := fun k e => by rcases r4 k e with h | h; exact .inl h; exact .inr (by omega)
    have fin : ∀ o, Chg (fun k => D k ∨ resOwn rb bl bm vg0 k) w (W2.putObj (w.heap.size + 1) o) := fun o => (r3'.trans (chg_putG (.inr (by omega)))).mono (fun k hk e => e.elim id (fun e => absurd e (by omega)))
    rcases r5 with ⟨⟨j1, j2, j3⟩, e1, e2, e3, e4⟩ | ⟨eb, ⟨j1, j2, j3⟩, k, e1, e2, e3, e4⟩
    · refine ⟨none, _, by have := run_endLoop (P := Try.prog) j2 (by rw [hrec]; simp); rw [hrec] at this; exact this, ?_⟩
      exact hdone gr S vg _ (hJ _ _ j1 (chg_putG hD1)) (r1.chg (chg_putG (own := fun k => k = w.heap.size + 1) rfl) hO1) e1 e2 e3 e4 r4' hO0 (fin _) ((World.putObj_heap_other (by omega)).trans j3)
    · refine ⟨some .ret, _, by have := run_endLoop (P := Try.prog) j2 (by rw [hrec]; simp); rw [hrec] at this; exact this, ?_⟩
      exact hstop gr S vg _ k eb (hIx _ _ _ _ _ j1 (chg_putG hD1)) (r1.chg (chg_putG (own := fun k => k = w.heap.size + 1) rfl) hO1) e1 e2 e3 e4 r4' hO0 (fin _) ((World.putObj_heap_other (by omega)).trans j3)
  · rintro gr S vg x W ⟨hj, hl, hk⟩ hat far hsz m
    have hlt : w.heap.size + 1 < W.heap.size := (Array.getElem?_eq_some_iff.1 hl).1
    have hy := run_yield (P := Try.prog) (args := #[encT x]) hl (by rw [hrec]; exact hps)
    rw [hrec] at hy
    refine ⟨fn, _, assign, body, hy, roundIn_of_wpIn trivial (hassign _ m x W _ ⟨_, run_beginRound hl (by rw [hrec]), ?_⟩)⟩
    obtain ⟨W2, hW2⟩ : ∃ W2, W.putObj (w.heap.size + 1) (.loop { rec .ready none with state := .busy }) = W2 := ⟨_, rfl⟩
    rw [hW2]
    have hl2 : W2.heap[w.heap.size + 1]? = some (.loop { rec .ready none with state := .busy }) := by rw [← hW2]; exact World.putObj_heap_same hlt
    have hk2 : W2.heap[w.heap.size]? = some (.deferred (some [])) := by rw [← hW2]; exact (World.putObj_heap_other (by omega)).trans hk
    have hD1 : ¬ D (w.heap.size + 1) := fun e => by have := hD _ e; omega
    have hD0 : ¬ D (w.heap.size) := fun e => by have := hD _ e; omega
    have hw2 : Chg F W W2 := by rw [← hW2]; exact chg_putG (by rw [hF]; exact .inr (.inr rfl))
    have hj2 : J0 W2 := by rw [← hW2]; exact hJ _ _ hj (chg_putG hD1)
    have hat2 : ResAt B W2 rb gr S vg bl bm c := hat.chg hw2 far
    refine wpIn_mono (hbody _ m gr S vg x W2 hj2 hat2 (fun k e e2 => far k e (by rw [hF]; exact .inl e2))) ?_
    rintro e a3 W3 hp
    cases e with
    | normal =>
      obtain ⟨eb, hc3, hj3⟩ := hp
      have hl3 := (hc3.block _ (Array.getElem?_eq_some_iff.1 hl2).1 hD1).trans hl2
      have hk3 := (hc3.block _ (Array.getElem?_eq_some_iff.1 hk2).1 hD0).trans hk2
      have hr := run_endRound (P := Try.prog) none hl3
      refine ⟨_, _, hr, by rw [eb]; rfl, (hw2.trans (hc3.mono (fun k _ e => by rw [hF]; exact .inl e))).trans (chg_putG (by rw [hF]; exact .inr (.inr rfl))), fun _ => ⟨hJ _ _ hj3 (chg_putG hD1), ?_, (World.putObj_heap_other (by omega)).trans hk3⟩, fun e => by rw [eb] at e; cases e⟩
      rw [World.putObj_heap_same (Array.getElem?_eq_some_iff.1 hl3).1]
      simp [hrec]
    | ret =>
      obtain ⟨eb, hc3, hj3⟩ := hp
      have hl3 := (hc3.block _ (Array.getElem?_eq_some_iff.1 hl2).1 hD1).trans hl2
      have hk3 := (hc3.block _ (Array.getElem?_eq_some_iff.1 hk2).1 hD0).trans hk2
      have hr := run_endRound (P := Try.prog) (some .ret) hl3
      refine ⟨_, _, hr, by rw [eb]; rfl, (hw2.trans (hc3.mono (fun k _ e => by rw [hF]; exact .inl e))).trans (chg_putG (by rw [hF]; exact .inr (.inr rfl))), (fun e => by rw [eb] at e; cases e), fun _ => ⟨hIx _ _ _ _ _ hj3 (chg_putG hD1), ?_, (World.putObj_heap_other (by omega)).trans hk3⟩⟩
      rw [World.putObj_heap_same (Array.getElem?_eq_some_iff.1 hl3).1]
      simp [hrec]
    | exit id => exact hp.elim
    | goto t => exact hp.elim
    | panic ch => exact hp.elim
    | outgrown => exact hp.elim
end Go.Proofs.Ythmjbfocpdiikaa
/-
  Layer 35 (grant): Run.
-/
namespace Go.Proofs.Ythmjbfocpdiikaa
open Go.RowKit
set_option linter.unusedVariables false
set_option linter.unusedSimpArgs false
attribute [local go_sem] drewN_alloc drewN_setCell Oper.semAt_some


variable {w w' : World}
/-- A result of Run or Step: rows of the call's own. -/
def ResV (w : World) (gr : List SK.Tick) (S : GN.St) (v : Value) (w' : World) : Prop :=
  ∃ vg bl bm c, v = .agg #[vg, .slice (some ⟨bl, 0, none⟩) S.left.length c, .slice (some ⟨bm, 0, none⟩) S.ms.length S.ms.length, .int .i64 S.free] ∧ OwnT w.heap.size w' vg gr ∧ OwnT w.heap.size w' (.slice (some ⟨bl, 0, none⟩) S.left.length c) S.left ∧ RowA w' bm 34 (cellsM S.ms) ∧ w.heap.size ≤ bm ∧
    (∀ t ∈ S.left, TickBd t) ∧ (∀ t ∈ gr, TickBd t) ∧ (∀ m ∈ S.ms, MemBd m) ∧ Bd S.free ∧ gr.length + S.left.length ≤ 1000 ∧ S.ms.length ≤ 1000
theorem own_rowT {b : Nat} {l : List SK.Tick} {B : Nat} (h : RowA w b 51 (cellsT l)) (hB : B ≤ b) (hl : l.length ≤ 1000) : OwnT B w (.slice (some ⟨b, 0, none⟩) l.length l.length) l := by
  refine ⟨by rw [cellsT_len], .inr ⟨b, l.length, (cellsT l).toArray, rfl, hB, h, Nat.le_refl _, by unfold maxLen; omega, by simp [cellsT_len], ?_⟩⟩
  rw [List.take_of_length_le (by simp [cellsT_len])]
/-- The result of copied, in the cells at rb. -/
theorem res_start {b2 b5 rb : Nat} {ts : List SK.Tick} {ms : List PO.Mem} {free : Int} {B : Nat} (h2 : RowA w b2 51 (cellsT ts)) (h5 : RowA w b5 34 (cellsM ms)) (hr : RowA w rb 56 [.slice none 0 0, .slice (some ⟨b2, 0, none⟩) ts.length ts.length, .slice (some ⟨b5, 0, none⟩) ms.length ms.length, .int .i64 free])
    (l2 : B ≤ b2) (l5 : B ≤ b5) (n : b2 ≠ b5) (lr2 : rb ≠ b2) (lr5 : rb ≠ b5) (lr : B ≤ rb) (bt : ∀ t ∈ ts, TickBd t) (bm : ∀ m ∈ ms, MemBd m) (bf : Bd free) (ht : ts.length ≤ 1000) (hm : ms.length ≤ 1000) :
    ResAt B w rb [] ⟨ts, ms, free⟩ (.slice none 0 0) b2 b5 ts.length :=
  ⟨hr, OwnT.nil _ _, own_rowT h2 l2 ht, h5, bt, (fun _ h => by cases h), bm, bf, n, lr2, lr5, (fun k e => by cases e), lr, l2, l5, by simpa using ht, hm, Nat.le_of_lt (Nat.lt_of_le_of_lt l2 h2.lt)⟩
set_option maxRecDepth 100000 in
set_option maxHeartbeats 16000000 in
theorem grant_Run {TA MA : Option Addr} {tn mn : Nat} {ts : List SK.Tick} {ms : List PO.Mem} (tc mc : Nat) (free wt : Int) (h : TickAt w TA tn ts) (hm : MemAt w MA mn ms) (htn : tn ≤ 1000) (hmn : mn ≤ 1000) (bf : Bd free) (bw : Bd wt) :
    Calls Try.prog 39 #[.slice TA tn tc, .int .i64 free, .int .i64 wt, .slice MA mn mc] w fun e w' => ∃ v, e = .returned v ∧ ResV w (GN.run tn wt ⟨ts, ms, free⟩).1 (GN.run tn wt ⟨ts, ms, free⟩).2 v w' ∧ Below w.heap.size w w' := by
  have KC : Hid (∀ W, Below w.heap.size w W → Calls Try.prog 66 #[.slice TA tn tc, .slice MA mn mc, .int .i64 free] W (GivesCopied tn mn ts ms free W)) := Lib.hid (fun W hW => grant_copied tc mc free (h.keep hW) (hm.keep hW) htn hmn)
  have HB := Lib.hid h.2.2.1
  have HMB := Lib.hid hm.2.2.1
  have HL := Lib.hid h.1
  have HML := Lib.hid hm.1
  have BF := Lib.hid bf
  clear h hm
  refine callsIn_wide (n := 3) |>.1 ?_
  refine callsIn_of_wp_marks Try.func39 rfl trivial ?_ rfl
  simp only [Try.ntmps39, List.size_toArray, List.length_cons, List.length_nil, Nat.reduceAdd, Nat.reduceSub, Array.replicate_succ, Array.replicate_zero, List.push_toArray, List.append_toArray, List.nil_append, List.cons_append]
  refine wpIn_wide.2 ?_
  go_wp2_with fail
  refine (KC.out _ (by repeat (first | exact Below.refl _ _ | assumption | refine bel_drew ?_ | refine bel_drewN ?_ _ | refine bel_alloc ?_ _ | refine bel_trans ?_ (by assumption)))).mono ?_
  rintro e w1 ⟨b2, b5, rfl, l2, l5, n25, r2, r5, b1⟩
  obtain ⟨s, hs⟩ : ∃ s, w.heap.size = s := ⟨_, rfl⟩
  have r8 : RowA w1 s 56 [.slice none 0 0, .slice none 0 0, .slice none 0 0, .int .i64 0] := by rw [← hs]; exact (RowA.new w 56 [.slice none 0 0, .slice none 0 0, .slice none 0 0, .int .i64 0]).keep b1
  have s1 := b1.size
  simp only [World.size_alloc, hs] at l2 l5 s1
  have B1 : Below w.heap.size w w1 := (bel_alloc (Below.refl _ w) _).trans (b1.mono (by simp))
  have R2 := Lib.hid r2
  have R5 := Lib.hid r5
  have R8 := Lib.hid r8
  have HB1 := Lib.hid B1
  have HS := Lib.hid hs
  clear b1 r2 r5 r8 B1
  rw [hs]
  go_upto_region 2 with (fail)
  refine region_nameL ?_
  rintro X hX
  have rX : RowA X w1.heap.size 56 [.slice none 0 0, .slice (some ⟨b2, 0, none⟩) tn tn, .slice (some ⟨b5, 0, none⟩) mn mn, .int .i64 free] := by rw [hX]; exact RowA.new w1 56 _
  have bX : Below w1.heap.size w1 X := by rw [hX]; exact (by repeat (first | exact Below.refl _ _ | assumption | refine bel_drew ?_ | refine bel_drewN ?_ _ | refine bel_alloc ?_ _ | refine bel_set ?_ (by first | (dsimp only; omega) | (simp; done) | (simp; omega)) _ | refine bel_trans ?_ (by assumption)))
  have sX : X.heap.size = w1.heap.size + 1 := by rw [hX]; simp
  have RX := Lib.hid rX
  have BX := Lib.hid bX
  clear hX rX bX
  go_wp2_with fail
  refine (grants_func _ _ _).mono ?_
  rintro e w2 ⟨rfl, hw2⟩
  go_wp2_with fail
  have b2X : Below X.heap.size X w2 := by rw [← hw2]; exact (by repeat (first | exact Below.refl _ _ | assumption | refine bel_drew ?_ | refine bel_drewN ?_ _ | refine bel_alloc ?_ _ | refine bel_set ?_ (by first | (dsimp only; omega) | (simp; done) | (simp; omega)) _ | refine bel_trans ?_ (by assumption)))
  have cp : w2.cell? ⟨X.heap.size, 0, none⟩ = some (.pointer (some ⟨w1.heap.size, 0, none⟩)) := by rw [← hw2]; simp [go_sem]
  have cw : w2.cell? ⟨X.heap.size + 1, 0, none⟩ = some (.int .i64 wt) := by rw [← hw2]; simp [go_sem]
  have s2 : w2.heap.size = w1.heap.size + 3 := by rw [← hw2]; simp [sX]
  rw [sX] at cp cw
  have hat : ResAt s w2 w1.heap.size [] ⟨ts, ms, free⟩ (.slice none 0 0) b2 b5 ts.length := by
    have h1 := HL.out
    have h2 := HML.out
    have l2' := R2.out.lt
    have l5' := R5.out.lt
    refine res_start ((R2.out.keep BX.out).keep b2X) ((R5.out.keep BX.out).keep b2X) ?_ (by omega) (by omega) n25 (by omega) (by omega) (by omega) HB.out HMB.out BF.out (by omega) (by omega)
    rw [h1, h2]; exact RX.out.keep b2X
  have LT2 := R2.out.lt
  have LT5 := R5.out.lt
  clear hw2
  refine (wpIn_wide (n := 3)).1 ?_
  refine range_grants (n := 3) (pb := w1.heap.size + 1) (wb := w1.heap.size + 1 + 1) true rfl rfl hat cp cw bw (fun _ => False) (fun _ e => e.elim) ?_ ?_ ?_ (fun e => e) (fun e => e) (fun _ => True) (fun _ _ _ _ => True) (fun _ _ _ _ => trivial) (fun _ _ _ _ _ _ _ => trivial) trivial
    (fun t => { tmps := #[.slice TA tn tc, .int .i64 free, .int .i64 wt, .slice MA mn mc, undef, undef, undef, undef, .pointer (some ⟨s, 0, none⟩), .pointer (some ⟨w1.heap.size, 0, none⟩), .slice TA tn tc, .slice MA mn mc, .int .i64 free, .agg #[.slice none 0 0, .slice (some ⟨b2, 0, none⟩) tn tn, .slice (some ⟨b5, 0, none⟩) mn mn, .int .i64 free], .int .i64 wt, .func (.func 88) #[] #[.pointer (some ⟨w1.heap.size + 1, 0, none⟩), .pointer (some ⟨w1.heap.size + 1 + 1, 0, none⟩)], encT t, undef], defers := [] }) ?_ ?_ ?_ ?_
  · rintro k (rfl | rfl | rfl | e)
    · exact ⟨by omega, fun e => e⟩
    · exact ⟨by omega, fun e => e⟩
    · exact ⟨by omega, fun e => e⟩
    · cases e
  · rintro (e | e | e | e)
    · omega
    · omega
    · omega
    · cases e
  · rintro (e | e | e | e)
    · omega
    · omega
    · omega
    · cases e
  · intro l m x W K hK
    gi_wp2
    first | exact hK | (simpa using hK) | (simpa [go_sem] using hK)
  · intro l m gr S vg x W _ _ _
    clear hat cp cw
    gi_wp2
    exact ⟨rfl, Chg.refl _ _, trivial⟩
  · intro gr S vg W _ hat9 e1 _ e2 e3 hn ho hc hd
    have n2 : s ≠ w1.heap.size := by omega
    have nb2 : s ≠ b2 := by omega
    have nb5 : s ≠ b5 := by omega
    have r8 := ((R8.out.keep BX.out).keep b2X).chg hc (fun e => e.elim id (fun e => by rcases e with e | e | e | e; omega; omega; omega; cases e))
    obtain ⟨k9, hk9⟩ : ∃ k9, w2.heap.size = k9 := ⟨_, rfl⟩
    rw [hk9] at hd hn ho ⊢
    have rr := hat9.row
    have c0 := (rr.cell 0).trans rfl
    have c1 := (rr.cell 1).trans rfl
    have c2 := (rr.cell 2).trans rfl
    have c3 := (rr.cell 3).trans rfl
    have d0 := (r8.cell 0).trans rfl
    have d1 := (r8.cell 1).trans rfl
    have d2 := (r8.cell 2).trans rfl
    have d3 := (r8.cell 3).trans rfl
    have f0 := r8.frozen 0
    have f1 := r8.frozen 1
    have f2 := r8.frozen 2
    have f3 := r8.frozen 3
    have HAT := Lib.hid hat9
    have H8 := Lib.hid r8
    have HD := Lib.hid hd
    have HN := Lib.hid hn
    have HO := Lib.hid ho
    have HK := Lib.hid hk9
    have HE2 := Lib.hid e2
    have HE3 := Lib.hid e3
    have CW : Hid (Chg (fun k => s ≤ k) w W) := Lib.hid ((((Chg.of_below HB1.out).trans (Chg.of_below BX.out)).trans (Chg.of_below b2X)).trans (hc.mono (fun k _ e => e.elim (fun e => e.elim) (fun e => by rcases e with e | e | e | e; omega; omega; omega; cases e))))
    clear hat9 hat cp cw hd hn ho hk9 hc r8 rr e1 e2 e3 b2X
    obtain ⟨A9, n9, c9, hv9⟩ := HAT.out.own.form
    subst hv9
    go_wp2_with fail
    obtain ⟨W9, hW9⟩ : ∃ W9, ((((W.setCell ⟨s, 0, none⟩ (.slice A9 n9 c9)).setCell ⟨s, 1, none⟩ (.slice (some ⟨b2, 0, none⟩) S.left.length ts.length)).setCell ⟨s, 2, none⟩ (.slice (some ⟨b5, 0, none⟩) S.ms.length S.ms.length)).setCell ⟨s, 3, none⟩ (.int .i64 S.free)) = W9 := ⟨_, rfl⟩
    rw [hW9]
    have C9 : Chg (fun q => q = s) W W9 := by rw [← hW9]; exact ((((Chg.refl (fun q => q = s) W).set (p := ⟨s, 0, none⟩) rfl _).set (p := ⟨s, 1, none⟩) rfl _).set (p := ⟨s, 2, none⟩) rfl _).set (p := ⟨s, 3, none⟩) rfl _
    have R9 : RowA W9 s 56 [.slice A9 n9 c9, .slice (some ⟨b2, 0, none⟩) S.left.length ts.length, .slice (some ⟨b5, 0, none⟩) S.ms.length S.ms.length, .int .i64 S.free] := by rw [← hW9]; exact (((H8.out.set_ 0 _).set_ 1 _).set_ 2 _).set_ 3 _
    have sk1 : s < k9 := by have := HK.out; omega
    have sk : s ≠ k9 := by omega
    have hd9 : W9.heap[k9]? = some (.deferred (some [])) := (C9.block k9 (Array.getElem?_eq_some_iff.1 HD.out).1 (fun e => sk e.symm)).trans HD.out
    have CP9 : Chg (fun q => q = s ∨ q = k9) W (W9.putObj k9 (.deferred none)) := (C9.mono (fun _ _ e => .inl e)).trans (chg_putG (.inr rfl))
    have RF := R9.chg (chg_putG (own := fun q => q = k9) (o := .deferred none) rfl) (fun e => sk e)
    have y0 := (RF.cell 0).trans rfl
    have y1 := (RF.cell 1).trans rfl
    have y2 := (RF.cell 2).trans rfl
    have y3 := (RF.cell 3).trans rfl
    have hatF := HAT.out.chg CP9 (fun k e => by
      rintro (e2 | e2)
      · rcases e with e | e | e | e
        · omega
        · omega
        · omega
        · rcases HN.out k e with h1 | h1
          · cases h1
          · omega
      · exact HO.out k e e2)
    have CF : Below s w (W9.putObj k9 (.deferred none)) := (CW.out.trans (CP9.mono (fun k _ e => by rcases e with e | e <;> omega))).below (by rw [HS.out]; exact Nat.le_refl _) (fun k hk => hk)
    refine ⟨by simp, .inl ⟨_, _, rfl, run_takeDeferred hd9, ?_⟩⟩
    refine ⟨.agg #[.slice A9 n9 c9, .slice (some ⟨b2, 0, none⟩) S.left.length ts.length, .slice (some ⟨b5, 0, none⟩) S.ms.length S.ms.length, .int .i64 S.free], by simp [results, Try.results39, go_sem, y0, y1, y2, y3], _, rfl, ?_, CF⟩
    have e2 := HE2.out
    have e3 := HE3.out
    rw [List.nil_append] at e2
    rw [show (⟨ts, ms, free⟩ : GN.St).left.length = tn from HL.out] at e2 e3
    rw [← e2, ← e3]
    refine ⟨_, _, _, _, rfl, ?_, ?_, hatF.mem, ?_, hatF.bt, hatF.bg, hatF.bms, hatF.bf, hatF.len, hatF.lm⟩
    · rw [HS.out]; exact hatF.own
    · rw [HS.out]; exact hatF.left
    · rw [HS.out]; exact hatF.b3
  · intro gr S vg W k eb
    cases eb
end Go.Proofs.Ythmjbfocpdiikaa
/-
  Layer 35 (grant): works.
-/
namespace Go.Proofs.Ythmjbfocpdiikaa
open Go.RowKit
set_option linter.unusedVariables false
set_option linter.unusedSimpArgs false
attribute [local go_sem] drewN_alloc drewN_setCell


variable {w w' : World}
theorem OwnT.form1 {B : Nat} {v : Value} {l : List SK.Tick} (h : OwnT B w v l) (h0 : 0 < l.length) : ∃ g c, v = .slice (some ⟨g, 0, none⟩) l.length c := by
  rcases h.2 with ⟨e, e2⟩ | ⟨g, cap, cur, e, _⟩
  · omega
  · exact ⟨g, cap, e⟩
theorem works_run : GN.run 2 0 ⟨[(1, 0, 5, 1, 0), (2, 1, 1, 1, 0)], [(0, 5, 0, 5), (1, 4, 1, 1)], 4⟩ = ([(2, 1, 1, 2, 0)], ⟨[(1, 0, 5, 1, 1)], [(0, 5, 0, 5), (1, 4, 2, 0)], 3⟩) := by rfl
set_option maxRecDepth 100000 in
set_option maxHeartbeats 16000000 in
theorem law35_works (w : World) : Calls Try.prog 38 #[] w fun e w' => e = .returned (.bool true) ∧ Below w.heap.size w w' := by
  go_enter Try.func38, Try.ntmps38
  go_upto_region 3 with (fail)
  refine region_nameL ?_
  rintro W hW
  have bW : Below w.heap.size w W := by rw [hW]; exact (by repeat (first | exact Below.refl _ _ | assumption | refine bel_drew ?_ | refine bel_drewN ?_ _ | refine bel_alloc ?_ _ | refine bel_set ?_ (by first | (dsimp only; omega) | (simp; done) | (simp; omega)) _ | refine bel_trans ?_ (by assumption)))
  have rT : RowA W w.heap.size 51 (cellsT [(1, 0, 5, 1, 0), (2, 1, 1, 1, 0)]) := by rw [hW]; exact (RowA.new w 51 (cellsT [(1, 0, 5, 1, 0), (2, 1, 1, 1, 0)])).keep (bel_alloc (Below.refl _ _) _)
  have rM : RowA W (w.heap.size + 1) 34 (cellsM [(0, 5, 0, 5), (1, 4, 1, 1)]) := by
    have := RowA.new (w.alloc (.cells (cellsT [(1, 0, 5, 1, 0), (2, 1, 1, 1, 0)]).toArray 51)) 34 (cellsM [(0, 5, 0, 5), (1, 4, 1, 1)])
    rw [World.size_alloc] at this
    rw [hW]; exact this
  have bt : ∀ t ∈ ([(1, 0, 5, 1, 0), (2, 1, 1, 1, 0)] : List SK.Tick), TickBd t := by
    intro t ht
    simp only [List.mem_cons, List.not_mem_nil, or_false] at ht
    rcases ht with rfl | rfl <;> exact ⟨by unfold Bd; decide, by unfold Bd; decide, by unfold Bd; decide, by unfold Bd; decide, by unfold Bd; decide⟩
  have bm : ∀ m ∈ ([(0, 5, 0, 5), (1, 4, 1, 1)] : List PO.Mem), MemBd m := by
    intro t ht
    simp only [List.mem_cons, List.not_mem_nil, or_false] at ht
    rcases ht with rfl | rfl <;> exact ⟨by unfold Bd; decide, by unfold Bd; decide, by unfold Bd; decide, by unfold Bd; decide⟩
  obtain ⟨A, c, ev, hT, _, _⟩ := (own_rowT (B := 0) rT (Nat.zero_le _) (by decide)).tick bt
  injection ev with e1 e2 e3
  subst e1
  have hM := memAt_row rM bm (by decide)
  have KR := Lib.hid (fun tc mc => grant_Run tc mc 4 0 hT hM (by decide) (by decide) (by unfold Bd; decide) (by unfold Bd; decide))
  have KR2 : Hid (Calls Try.prog 39 #[.slice (some ⟨w.heap.size, 0, none⟩) 2 2, .int .i64 4, .int .i64 0, .slice (some ⟨w.heap.size + 1, 0, none⟩) 2 2] W fun e w' => ∃ v, e = .returned v ∧ ResV W [(2, 1, 1, 2, 0)] ⟨[(1, 0, 5, 1, 1)], [(0, 5, 0, 5), (1, 4, 2, 0)], 3⟩ v w' ∧ Below W.heap.size W w') := Lib.hid (by
    have := KR.out 2 2
    rw [show ([(1, 0, 5, 1, 0), (2, 1, 1, 1, 0)] : List SK.Tick).length = 2 from rfl, works_run] at this
    exact this)
  have BW := Lib.hid bW
  clear hW bW rT rM bt bm hT hM KR e2 e3
  go_wp2_with fail
  refine KR2.out.mono ?_
  rintro e w1 ⟨v, rfl, ⟨vg, bl, bm, c, rfl, og, ol, om, hbm, _, _, _, _, _, _⟩, b1⟩
  obtain ⟨g, cg, rfl⟩ := og.form1 (by decide)
  have B1 : Below w.heap.size w w1 := BW.out.trans (b1.mono BW.out.size)
  have OG := Lib.hid og
  have OL := Lib.hid ol
  have OM := Lib.hid om
  have HB1 := Lib.hid B1
  clear og ol om b1 B1 KR2
  go_upto_region 4 with (fail)
  refine region_nameL ?_
  rintro X hX
  have bX : Below w1.heap.size w1 X := by rw [hX]; exact (by repeat (first | exact Below.refl _ _ | assumption | refine bel_drew ?_ | refine bel_drewN ?_ _ | refine bel_alloc ?_ _ | refine bel_set ?_ (by first | (dsimp only; omega) | (simp; done) | (simp; omega)) _ | refine bel_trans ?_ (by assumption)))
  have rX : RowA X w1.heap.size 56 [.slice (some ⟨g, 0, none⟩) 1 cg, .slice (some ⟨bl, 0, none⟩) 1 c, .slice (some ⟨bm, 0, none⟩) 2 2, .int .i64 3] := by rw [hX]; exact RowA.new w1 56 _
  have og := OG.out.keep bX
  have ol := OL.out.keep bX
  have om := OM.out.keep bX
  have c0 := (rX.cell 0).trans rfl
  have c1 := (rX.cell 1).trans rfl
  have c2 := (rX.cell 2).trans rfl
  have c3 := (rX.cell 3).trans rfl
  have g0 := og.at_ (i := 0) (r := 0) (by decide) (by decide)
  have g1 := og.at_ (i := 0) (r := 1) (by decide) (by decide)
  have g2 := og.at_ (i := 0) (r := 2) (by decide) (by decide)
  have g3 := og.at_ (i := 0) (r := 3) (by decide) (by decide)
  have g4 := og.at_ (i := 0) (r := 4) (by decide) (by decide)
  replace g0 : X.cell? ⟨g, 0, none⟩ = some (.int .i64 2) := g0
  replace g1 : X.cell? ⟨g, 1, none⟩ = some (.int .i64 1) := g1
  replace g2 : X.cell? ⟨g, 2, none⟩ = some (.int .i64 1) := g2
  replace g3 : X.cell? ⟨g, 3, none⟩ = some (.int .i64 2) := g3
  replace g4 : X.cell? ⟨g, 4, none⟩ = some (.int .i64 0) := g4
  have l4 : X.cell? ⟨bl, 4, none⟩ = some (.int .i64 1) := ol.at_ (i := 0) (r := 4) (by decide) (by decide)
  have m6 : X.cell? ⟨bm, 6, none⟩ = some (.int .i64 2) := (om.cell 6).trans rfl
  have HX : Hid (Below w.heap.size w X) := Lib.hid (HB1.out.trans (bX.mono HB1.out.size))
  clear hX bX rX og ol om
  go_wp2_with fail
  go_ret
  exact ⟨rfl, HX.out⟩
theorem eql_tick_same (a0 a1 a2 a3 a4 : Int) (w : World) :
    (Op.equalIn 10000 51 (.agg #[.int .i64 a0, .int .i64 a1, .int .i64 a2, .int .i64 a3, .int .i64 a4]) (.agg #[.int .i64 a0, .int .i64 a1, .int .i64 a2, .int .i64 a3, .int .i64 a4])).run Try.prog w = .ok true w := by
  have u3 := Try.underlying3
  have a3' := Try.isAgg3
  have z3 := Try.sizeOf3
  have hS : Try.prog.underlying 51 = some (.struct (Try.prog.fieldsOf 51)) := by kernel_rfl
  have hp : Try.prog.stoodInHeld 51 = false := by kernel_rfl
  rw [show (10000 : Nat) = 9999 + 1 from rfl, run_equalIn_agg w 9999 51 _ _ hS hp]
  simp only [Program.fieldsOf, Try.underlying51]
  go_simp
def SameTRel (w : World) (n : Nat) (i : Value) (wr : World) : Prop := ∃ k : Nat, k ≤ n ∧ i = .int .i64 k ∧ Below w.heap.size w wr
set_option maxHeartbeats 2000000 in
theorem base_SameTickets_same {A B : Option Addr} {n : Nat} {l : List SK.Tick} (c d : Nat) {w : World} (hx : TickAt w A n l) (hy : TickAt w B n l) :
    Calls Try.prog 40 #[.slice A n c, .slice B n d] w fun e w' => e = .returned (.bool true) ∧ Below w.heap.size w w' := by
  have hn := hx.2.1
  have HX := Lib.hid hx
  have HY := Lib.hid hy
  clear hx hy
  go_enter Try.func40, Try.ntmps40
  go_wp2_with fail
  go_loopw [5] (fun i wr => SameTRel w n i wr) (fun i _ => n - (intOf i).toNat)
  case atStart => exact ⟨0, Nat.zero_le _, rfl, Below.refl _ _⟩
  case round =>
    obtain ⟨k, hk, rfl, hbel⟩ := hrel
    have j1 : (0 : Int) ≤ (k : Int) := by omega
    by_cases hlt : (k : Int) < n
    · obtain ⟨b, off, rfl, hb, hc⟩ := HX.out.2.2.2 (by omega)
      obtain ⟨b', off', rfl, hb', hc'⟩ := HY.out.2.2.2 (by omega)
      obtain ⟨x0, x1, x2, x3, x4⟩ := (hc k (by omega)).keep hbel hb
      obtain ⟨y0, y1, y2, y3, y4⟩ := (hc' k (by omega)).keep hbel hb'
      generalize l.getD k SK.t0 = m at *
      have EQ := eql_tick_same m.1 m.2.1 m.2.2.1 m.2.2.2.1 m.2.2.2.2
      clear hc hc'
      go_wp2_with fail
      go_quiet (fail)
      go_wp2_with fail
      go_roundw
      case rel => exact ⟨k + 1, by omega, by go_num, (by repeat (first | exact Below.refl _ _ | assumption | refine bel_drew ?_ | refine bel_drewN ?_ _ | refine bel_alloc ?_ _ | refine bel_set ?_ (by first | (dsimp only; omega) | (simp; done) | (simp; omega)) _ | refine bel_trans ?_ (by assumption)))⟩
      case measure => simp [intOf]; omega
    · go_wp2_with fail
      go_ret
      exact ⟨rfl, (by repeat (first | exact Below.refl _ _ | assumption | refine bel_drew ?_ | refine bel_drewN ?_ _ | refine bel_alloc ?_ _ | refine bel_set ?_ (by first | (dsimp only; omega) | (simp; done) | (simp; omega)) _ | refine bel_trans ?_ (by assumption)))⟩
end Go.Proofs.Ythmjbfocpdiikaa
/-
  Layer 35 (grant): the walk of GrantWhole.
-/
namespace Go.Proofs.Ythmjbfocpdiikaa
open Go.RowKit
set_option linter.unusedVariables false
set_option linter.unusedSimpArgs false
attribute [local go_sem] drewN_alloc drewN_setCell

variable {w w' : World}
theorem app_listT {ops : Array Oper} {rest : List Oper} {o : Oper} {a : Act} {Q : Exit → Act → World → Prop} (hgd : o.guard = none) (s x : Operand)
    (ho : o.op = .call { callee := .builtin .append, args := #[s, x], argTypes := #[43, 43] })
    (B : Nat) (v : Value) (l : List SK.Tick) (hsv : a.eval s = v) (hown : OwnT B w v l)
    (A : Option Addr) (m c : Nat) (l2 : List SK.Tick) (hx : a.eval x = .slice A m c) (hs : SrcS 5 w A m (cellsT l2)) (hlen : l.length + m ≤ 1048576) (hbase : B ≤ w.heap.size)
    (h : ∀ v' w', OwnT B w' v' (l ++ l2) → Below B w w' → wpList Try.prog ops Q rest (a.put o.dst v') w') : wpList Try.prog ops Q (o :: rest) a w :=
  wpList_plain hgd fun _ hK => app_operT s x ho B v l hsv hown A m c l2 hx hs hlen hbase (fun v' w' h2 h3 _ => hK _ _ (h v' w' h2 ((Chg.of_grown (own := fun k => v.ownBlock = some k) h3 (fun _ e => e)).below hbase (fun k e => (hown.ltB k e).1))))

theorem own_rowM0 (W : World) : OwnM W.heap.size (W.alloc (.cells #[] 34)) (.slice (some ⟨W.heap.size, 0, none⟩) 0 0) [] :=
  ⟨rfl, .inr ⟨W.heap.size, 0, #[], rfl, Nat.le_refl _, World.alloc_heap_new _ _, Nat.le_refl _, by unfold maxLen; omega, rfl, rfl⟩⟩
/-- The sum behind j rounds. -/
def psum (F : Int) (l : List SK.Tick) (j : Nat) : Int := F + ((l.take j).map GN.cnt).sum
theorem psum_next {F : Int} {l : List SK.Tick} {j : Nat} (hj : j < l.length) : psum F l (j + 1) = psum F l j + GN.cnt (l.getD j SK.t0) := by
  unfold psum
  have eg : l.getD j SK.t0 = l[j] := by simp [List.getD, hj]
  rw [List.take_add_one, List.getElem?_eq_getElem hj, eg]
  simp only [Option.toList_some, List.map_append, List.map_cons, List.map_nil, List.sum_append, List.sum_cons, List.sum_nil]
  omega
theorem sum_pos : ∀ {l : List SK.Tick}, (∀ t ∈ l, 1 ≤ GN.cnt t) → 0 ≤ (l.map GN.cnt).sum
  | [], _ => by simp
  | t :: l, h => by
    have h1 := h t List.mem_cons_self
    have h2 := sum_pos (l := l) (fun u hu => h u (List.mem_cons_of_mem _ hu))
    simp only [List.map_cons, List.sum_cons]
    omega
theorem psum_bd {F : Int} {l : List SK.Tick} (j : Nat) (h : ∀ t ∈ l, 1 ≤ GN.cnt t) : F ≤ psum F l j ∧ psum F l j ≤ F + (l.map GN.cnt).sum := by
  unfold psum
  have h1 := sum_pos (l := l.take j) (fun t ht => h t (List.mem_of_mem_take ht))
  have h2 := sum_pos (l := l.drop j) (fun t ht => h t (List.mem_of_mem_drop ht))
  have h3 : (l.map GN.cnt).sum = ((l.take j).map GN.cnt).sum + ((l.drop j).map GN.cnt).sum := by
    rw [← List.sum_append, ← List.map_append, List.take_append_drop]
  omega
theorem run_pos : ∀ (d : Nat) (wt : Int) (S : GN.St), ∀ t ∈ (GN.run d wt S).1, 1 ≤ GN.cnt t
  | 0, _, _, t, h => by cases h
  | d + 1, wt, S, t, h => by
    rcases GN.goes_nx (S := S) (w := wt) with h1 | ⟨k, h1, h2⟩
    · rw [GN.run_no h1] at h; cases h
    · rw [GN.run_yes h1] at h
      rcases List.mem_cons.1 h with h3 | h3
      · rw [h3]; exact h2.n1
      · exact run_pos d wt (GN.step S k) t h3
def SumRel (X : World) (F : Int) (l : List SK.Tick) (s i : Value) (wr : World) : Prop := ∃ j : Nat, j ≤ l.length ∧ i = .int .i64 (j : Nat) ∧ s = .int .i64 (psum F l j) ∧ Below X.heap.size X wr

theorem law35_long_GrantWhole {TA MA : Option Addr} {tn mn : Nat} (tc mc : Nat) (f wt : Int) (w : World) (hn : 12 < tn ∨ 12 < mn) :
    Calls Try.prog 10 #[.agg #[.slice TA tn tc, .int .i64 f, .int .i64 wt, .slice MA mn mc]] w fun e w' => e = .returned (.bool true) ∧ Below w.heap.size w w' := by
  have K := Lib.hid law35_works
  rcases Nat.lt_or_ge 12 tn with h1 | h1
  · have g1 : decide ((12 : Int) < (tn : Int)) = true := decide_eq_true (by omega)
    go_enter Try.func10, Try.ntmps10
    go_wp2_with fail
    try (go_quiet (fail); go_wp2_with fail)
    refine (K.out _).mono ?_
    rintro e w1 ⟨rfl, h1⟩
    go_wp2_with fail
    exact bodyPost_ret (v := .bool true) (by simp [results, Try.results10, go_sem]) rfl ⟨rfl, (by repeat (first | exact Below.refl _ _ | assumption | refine bel_drew ?_ | refine bel_drewN ?_ _ | refine bel_alloc ?_ _ | refine bel_set ?_ (by first | (dsimp only; omega) | (simp; done) | (simp; omega)) _ | refine bel_trans ?_ (by assumption)))⟩
  · have g1 : decide ((12 : Int) < (tn : Int)) = false := decide_eq_false (by omega)
    have g2 : decide ((12 : Int) < (mn : Int)) = true := decide_eq_true (by omega)
    go_enter Try.func10, Try.ntmps10
    go_wp2_with fail
    try (go_quiet (fail); go_wp2_with fail)
    refine (K.out _).mono ?_
    rintro e w1 ⟨rfl, h1⟩
    go_wp2_with fail
    exact bodyPost_ret (v := .bool true) (by simp [results, Try.results10, go_sem]) rfl ⟨rfl, (by repeat (first | exact Below.refl _ _ | assumption | refine bel_drew ?_ | refine bel_drewN ?_ _ | refine bel_alloc ?_ _ | refine bel_set ?_ (by first | (dsimp only; omega) | (simp; done) | (simp; omega)) _ | refine bel_trans ?_ (by assumption)))⟩

set_option maxRecDepth 100000 in
set_option maxHeartbeats 16000000 in
theorem law35_GrantWhole_some {TA MA : Option Addr} {tn mn : Nat} {ts : List SK.Tick} {ms : List PO.Mem} (tc mc : Nat) (f wt : Int) {w : World} (h : TickAt w TA tn ts) (hm : MemAt w MA mn ms) (bf : -9223372036854775808 ≤ f ∧ f ≤ 9223372036854775807) (bw : -9223372036854775808 ≤ wt ∧ wt ≤ 9223372036854775807) (htc : tn ≤ tc) (hcm : tc ≤ 9223372036854775807) (h1 : tn ≤ 12) (h2 : mn ≤ 12) :
    Calls Try.prog 10 #[.agg #[.slice TA tn tc, .int .i64 f, .int .i64 wt, .slice MA mn mc]] w fun e w' => e = .returned (.bool true) ∧ Below w.heap.size w w' := by
  obtain ⟨p, hp⟩ : ∃ p, w.heap.size = p := ⟨_, rfl⟩
  obtain ⟨V, hV⟩ : ∃ V, w.alloc (.cells #[.slice TA tn tc, .int .i64 f, .int .i64 wt, .slice MA mn mc] 45) = V := ⟨_, rfl⟩
  have hB : Below w.heap.size w V := by rw [← hV]; exact (by repeat (first | exact Below.refl _ _ | assumption | refine bel_drew ?_ | refine bel_drewN ?_ _ | refine bel_alloc ?_ _ | refine bel_set ?_ (by first | (dsimp only; omega) | (simp; done) | (simp; omega)) _ | refine bel_trans ?_ (by assumption)))
  have sV : p < V.heap.size := by rw [← hV, ← hp]; simp
  have hS : Hid (∀ W : World, Below V.heap.size V W → W.cell? ⟨p, 0, none⟩ = some (.slice TA tn tc) ∧ W.cell? ⟨p, 1, none⟩ = some (.int .i64 f) ∧ W.cell? ⟨p, 2, none⟩ = some (.int .i64 wt) ∧ W.cell? ⟨p, 3, none⟩ = some (.slice MA mn mc)) := Lib.hid (fun W hW =>
    ⟨(hW.cell sV).trans (by rw [← hV, ← hp]; simp [go_sem]), (hW.cell sV).trans (by rw [← hV, ← hp]; simp [go_sem]), (hW.cell sV).trans (by rw [← hV, ← hp]; simp [go_sem]), (hW.cell sV).trans (by rw [← hV, ← hp]; simp [go_sem])⟩)
  have HT : Hid (∀ W, Below V.heap.size V W → TickAt W TA tn ts) := Lib.hid (fun W hW => (h.keep hB).keep hW)
  have HM : Hid (∀ W, Below V.heap.size V W → MemAt W MA mn ms) := Lib.hid (fun W hW => (hm.keep hB).keep hW)
  have HL : Hid (ts.length = tn) := Lib.hid h.1
  have HML : Hid (ms.length = mn) := Lib.hid hm.1
  have HBT := Lib.hid h.2.2.1
  have HBM := Lib.hid hm.2.2.1
  have g1 : decide ((12 : Int) < (tn : Int)) = false := decide_eq_false (by omega)
  have g2 : decide ((12 : Int) < (mn : Int)) = false := decide_eq_false (by omega)
  have g1' : ¬ (12 : Int) < (tn : Int) := by omega
  have g2' : ¬ (12 : Int) < (mn : Int) := by omega
  have HV := Lib.hid hV
  have HP := Lib.hid hp
  have HB := Lib.hid hB
  have HS0 := Lib.hid (Below.refl V.heap.size V)
  clear h hm hV hp hB
  go_enter Try.func10, Try.ntmps10
  go_upto_region 1 with (fail)
  rw [HV.out, HP.out]
  obtain ⟨c0, c1, c2, c3⟩ := hS.out V (Below.refl _ _)
  go_upto_region 3 with (fail)
  obtain ⟨d0, -, -, -⟩ := hS.out (V.alloc (.cells #[] 51)) (bel_alloc (Below.refl _ _) _)
  clear c0 c1 c2 c3
  go_wp2_with (first
    | (at_builtin; refine app_listT rfl (.tmp 19) (.tmp 21) rfl V.heap.size _ [] rfl (own_rowT (l := []) (RowA.new V 51 []) (Nat.le_refl _) (by decide)) TA tn tc ts rfl (srcT_of (HT.out _ (bel_alloc (Below.refl _ _) _))) (by simp; omega) (by simp) ?_; intro v3 w3 ho3 hb3; clear d0; have B3 : Below V.heap.size V w3 := (bel_alloc (Below.refl V.heap.size V) (.cells #[] 51)).trans hb3; obtain ⟨-, -, -, d3⟩ := hS.out (w3.alloc (.cells #[] 34)) (bel_alloc B3 _); rw [List.nil_append] at ho3; replace ho3 := Lib.hid ho3; replace B3 := Lib.hid B3; clear hb3)
    | (at_builtin; refine app_listM rfl (.tmp 23) (.tmp 25) rfl w3.heap.size _ [] rfl (own_rowM0 w3) MA mn mc ms rfl (srcM_of (HM.out _ (bel_alloc B3.out _))) (by simp; omega) (by simp) ?_; intro v4 w4 ho4 hb4; clear d3; have B4 : Below V.heap.size V w4 := B3.out.trans (((bel_alloc (Below.refl w3.heap.size w3) (.cells #[] 34)).trans hb4).mono B3.out.size); obtain ⟨-, d1, d2, -⟩ := hS.out w4 B4; have OT4 := ho3.out.keep ((bel_alloc (Below.refl w3.heap.size w3) (.cells #[] 34)).trans hb4); obtain ⟨A3, e3, rfl, t3, l3, k3⟩ := OT4.tick HBT.out; rw [List.nil_append] at ho4; obtain ⟨A4, e4, rfl, t4⟩ := OwnM.mem ho4 HBM.out; rw [HL.out] at t3 l3 ⊢; rw [HML.out] at t4 ⊢; replace t3 := Lib.hid t3; replace t4 := Lib.hid t4; replace B4 := Lib.hid B4; clear ho3 ho4 hb4 OT4 B3))
  have KR := grant_Run e3 e4 f wt t3.out t4.out (by omega) (by omega) bf bw
  have q0 := GN.run_end tn wt ⟨ts, ms, f⟩ (by show ts.length ≤ tn; rw [HL.out]; exact Nat.le_refl _)
  have qp := run_pos tn wt ⟨ts, ms, f⟩
  obtain ⟨R, hR⟩ : ∃ R, GN.run tn wt ⟨ts, ms, f⟩ = R := ⟨_, rfl⟩
  rw [hR] at KR q0 qp
  obtain ⟨GR, S⟩ := R
  dsimp only at KR q0 qp
  clear hR
  refine KR.mono ?_
  rintro e w5 ⟨v, rfl, ⟨vg, bl, bm, c5, rfl, og, ol, om, hbm, ql, qg, qm, qf, qn, qn2⟩, b5⟩
  obtain ⟨Ag, cg, rfl, tg, -, -⟩ := og.tick qg
  obtain ⟨Al, cl, el, tl, -, -⟩ := ol.tick ql
  have tm := memAt_row om qm qn2
  injection el with el1 el2 el3
  subst el1
  obtain ⟨gl, hgl⟩ : ∃ gl, GR.length = gl := ⟨_, rfl⟩
  obtain ⟨sl, hsl⟩ : ∃ sl, S.left.length = sl := ⟨_, rfl⟩
  obtain ⟨sm, hsm⟩ : ∃ sm, S.ms.length = sm := ⟨_, rfl⟩
  obtain ⟨F, hF⟩ : ∃ F, S.free = F := ⟨_, rfl⟩
  have hnx : SK.next S.left S.ms F wt = -1 := by rw [← hF]; exact q0.1
  have hlen : gl + sl = tn := by rw [← hgl, ← hsl, ← HL.out]; exact q0.2.1
  have hsum : (GR.map GN.cnt).sum + F = f := by rw [← hF]; exact q0.2.2.1
  rw [hgl] at tg
  rw [hsl] at tl
  rw [hsm] at tm qn2
  rw [hF] at qf
  rw [hgl, hsl, hsm, hF]
  have TG := Lib.hid tg
  have TL := Lib.hid tl
  have TM := Lib.hid tm
  have QP := Lib.hid qp
  have QF := Lib.hid qf
  have HGL := Lib.hid hgl
  have HNX := Lib.hid hnx
  have HSUM := Lib.hid hsum
  have B45 := Lib.hid b5
  have B5 : Hid (Below V.heap.size V w5) := Lib.hid (B4.out.trans (b5.mono B4.out.size))
  clear KR q0 qp og ol om hbm ql qg qm qn tg tl tm el2 el3 qf hgl hsl hsm hF hnx hsum b5 d1 d2
  go_upto_region 6 with (fail)
  refine region_nameL ?_
  rintro X hX
  have bX : Below w5.heap.size w5 X := by rw [hX]; exact (by repeat (first | exact Below.refl _ _ | assumption | refine bel_drew ?_ | refine bel_drewN ?_ _ | refine bel_alloc ?_ _ | refine bel_set ?_ (by first | (dsimp only; omega) | (simp; done) | (simp; omega)) _ | refine bel_trans ?_ (by assumption)))
  have rX : RowA X w5.heap.size 56 [.slice Ag gl cg, .slice (some ⟨bl, 0, none⟩) sl c5, .slice (some ⟨bm, 0, none⟩) sm sm, .int .i64 F] := by rw [hX]; exact RowA.new w5 56 _
  have BX : Hid (Below V.heap.size V X) := Lib.hid (B5.out.trans (bX.mono B5.out.size))
  have B4X : Hid (Below w4.heap.size w4 X) := Lib.hid (B45.out.trans (bX.mono B45.out.size))
  have HX := Lib.hid bX
  have HC : Hid (∀ W, Below X.heap.size X W → W.cell? ⟨w5.heap.size, 0, none⟩ = some (.slice Ag gl cg) ∧ W.cell? ⟨w5.heap.size, 1, none⟩ = some (.slice (some ⟨bl, 0, none⟩) sl c5) ∧ W.cell? ⟨w5.heap.size, 2, none⟩ = some (.slice (some ⟨bm, 0, none⟩) sm sm) ∧ W.cell? ⟨w5.heap.size, 3, none⟩ = some (.int .i64 F)) := Lib.hid (fun W hW => by
    have r := rX.keep hW
    exact ⟨(r.cell 0).trans rfl, (r.cell 1).trans rfl, (r.cell 2).trans rfl, (r.cell 3).trans rfl⟩)
  have c3 := (HC.out X (Below.refl _ _)).2.2.2
  clear hX bX rX
  go_wp2_with fail
  clear c3
  go_loopw [6, 7] (fun s i wr => SumRel X F GR s i wr) (fun s i _ => gl - (intOf i).toNat)
  case atStart => exact ⟨0, Nat.zero_le _, rfl, by simp [psum], Below.refl _ _⟩
  case round =>
    obtain ⟨j, hj, rfl, rfl, hb⟩ := hrel
    rw [HGL.out] at hj
    obtain ⟨c0, c1, c2, c3⟩ := HC.out wr hb
    have j0 : (0 : Int) ≤ (j : Int) := by omega
    have pb := psum_bd (F := F) j QP.out
    have fb := QF.out
    have hsum := HSUM.out
    unfold Bd at fb
    by_cases hlt : j < gl
    · have hjI : (j : Int) < (gl : Int) := by omega
      obtain ⟨b, off, rfl, hbb, hcc⟩ := TG.out.2.2.2 (by omega)
      have x2 := (((hcc j hlt).keep HX.out hbb).keep hb (Nat.lt_of_lt_of_le hbb HX.out.size)).2.2.1
      have pn := psum_next (F := F) (l := GR) (j := j) (by rw [HGL.out]; exact hlt)
      have pb2 := psum_bd (F := F) (j + 1) QP.out
      unfold GN.cnt at pn
      obtain ⟨q, hq⟩ : ∃ q, (GR.getD j SK.t0).2.2.1 = q := ⟨_, rfl⟩
      rw [hq] at pn
      replace x2 : wr.cell? ⟨b, off + j * 5 + 2, none⟩ = some (.int .i64 q) := by rw [← hq]; exact x2
      have wj : IntKind.i64.wrap ((j : Int) + 1) = (j : Int) + 1 := by rw [IntKind.wrap_i64]; omega
      have wsum : IntKind.i64.wrap (psum F GR j + q) = psum F GR j + q := by rw [IntKind.wrap_i64]; omega
      have HPN := Lib.hid pn
      have HBB := Lib.hid hb
      have HW := Lib.hid wsum
      clear hcc pn pb pb2 fb hsum hq
      go_wp2_with fail
      go_roundw
      case rel => exact ⟨j + 1, by rw [HGL.out]; exact hlt, by simp, by rw [HPN.out], HBB.out⟩
      case measure => simp [intOf]; omega
    · obtain rfl : j = gl := by omega
      have ef : psum F GR j = f := by
        have : GR.take j = GR := by rw [← HGL.out]; exact List.take_length
        unfold psum
        rw [this]; omega
      rw [ef]
      have hjI : ¬ (j : Int) < (j : Int) := by omega
      have wl : IntKind.i64.wrap ((j : Int) + (sl : Int)) = (tn : Int) := by rw [IntKind.wrap_i64]; omega
      have BW : Below V.heap.size V wr := BX.out.trans (hb.mono BX.out.size)
      have B5W : Below w5.heap.size w5 wr := HX.out.trans (hb.mono HX.out.size)
      have B4W : Below w4.heap.size w4 wr := B4X.out.trans (hb.mono B4X.out.size)
      obtain ⟨x0, x1, x2, x3⟩ := hS.out wr BW
      have KN := Lib.hid (ref34_Next c5 sm F wt (TL.out.keep B5W) (TM.out.keep B5W) (by omega) QF.out bw)
      rw [HNX.out] at KN
      have HB4W := Lib.hid B4W
      have HBW := Lib.hid BW
      clear pb fb hsum ef BW B5W B4W hb
      go_wp2_with fail
      refine KN.out.mono ?_
      rintro e w6 ⟨rfl, b6⟩
      have B6 : Below V.heap.size V w6 := HBW.out.trans (b6.mono HBW.out.size)
      have B46 : Below w4.heap.size w4 w6 := HB4W.out.trans (b6.mono HB4W.out.size)
      clear x0 x1 x2 x3 c0 c1 c2 c3
      obtain ⟨x0, x1, x2, x3⟩ := hS.out w6 B6
      have KT := Lib.hid (base_SameTickets_same e3 tc (t3.out.keep B46) (HT.out w6 B6))
      have HB46 := Lib.hid B46
      have HB6 := Lib.hid B6
      clear b6 B6 B46
      go_wp2_with fail
      refine KT.out.mono ?_
      rintro e w7 ⟨rfl, b7⟩
      have B7 : Below V.heap.size V w7 := HB6.out.trans (b7.mono HB6.out.size)
      have B47 : Below w4.heap.size w4 w7 := HB46.out.trans (b7.mono HB46.out.size)
      clear x0 x1 x2 x3
      obtain ⟨x0, x1, x2, x3⟩ := hS.out w7 B7
      have KM := Lib.hid (base_SameMembers_same e4 mc (t4.out.keep B47) (HM.out w7 B7))
      have HB7 := Lib.hid B7
      clear b7 B7 B47
      go_wp2_with fail
      refine KM.out.mono ?_
      rintro e w8 ⟨rfl, b8⟩
      have B8 : Below V.heap.size V w8 := HB7.out.trans (b8.mono HB7.out.size)
      clear x0 x1 x2 x3 b8
      go_wp2_with fail
      refine (law35_works _).mono ?_
      rintro e w9 ⟨rfl, b9⟩
      have B9 : Below w.heap.size w w9 := HB.out.trans ((B8.trans (b9.mono B8.size)).mono HB.out.size)
      clear b9 B8
      go_wp2_with fail
      exact bodyPost_ret (v := .bool true) (by simp [results, Try.results10, go_sem]) rfl ⟨rfl, B9⟩

theorem law35_GrantWhole {TA MA : Option Addr} {tn mn : Nat} {ts : List SK.Tick} {ms : List PO.Mem} (tc mc : Nat) (f wt : Int) {w : World} (h : TickAt w TA tn ts) (hm : MemAt w MA mn ms) (bf : -9223372036854775808 ≤ f ∧ f ≤ 9223372036854775807) (bw : -9223372036854775808 ≤ wt ∧ wt ≤ 9223372036854775807) (htc : tn ≤ tc) (hcm : tc ≤ 9223372036854775807) :
    Calls Try.prog 10 #[.agg #[.slice TA tn tc, .int .i64 f, .int .i64 wt, .slice MA mn mc]] w fun e w' => e = .returned (.bool true) ∧ Below w.heap.size w w' := by
  rcases Nat.lt_or_ge 12 tn with h1 | h1
  · exact law35_long_GrantWhole tc mc f wt w (.inl h1)
  · rcases Nat.lt_or_ge 12 mn with h2 | h2
    · exact law35_long_GrantWhole tc mc f wt w (.inr h2)
    · exact law35_GrantWhole_some tc mc f wt h hm bf bw htc hcm h1 h2
end Go.Proofs.Ythmjbfocpdiikaa
