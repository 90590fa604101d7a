/-
  SameMembers of the same; the reference's After, May, Which.
-/
import Derived.Test.YthmjbfocpdiikaaMemK
import Derived.Laws.StructEq
import Derived.StillTailTactics
namespace Go.Proofs.Ythmjbfocpdiikaa
open Go.RowKit
set_option linter.unusedVariables false
set_option linter.unusedSimpArgs false
attribute [local go_sem] drewN_alloc drewN_setCell

theorem eql_acc_same (k : Nat) (a0 a1 a2 : Int) (w : World) :
    (Op.equalIn (k + 1 + 1) 32 (.agg #[.int .i64 a0, .int .i64 a1, .int .i64 a2]) (.agg #[.int .i64 a0, .int .i64 a1, .int .i64 a2])).run Try.prog w = .ok true w := by
  have u3 := Try.underlying3
  have a3' := Try.isAgg3
  have z3 := Try.sizeOf3
  have hS : Try.prog.underlying 32 = some (.struct (Try.prog.fieldsOf 32)) := by kernel_rfl
  have hp : Try.prog.stoodInHeld 32 = false := by kernel_rfl
  rw [run_equalIn_agg w (k + 1) 32 _ _ hS hp]
  simp only [Program.fieldsOf, Try.underlying32]
  go_simp
theorem eql_mem_same (i a0 a1 a2 : Int) (w : World) :
    (Op.equalIn 10000 34 (.agg #[.int .i64 i, .int .i64 a0, .int .i64 a1, .int .i64 a2]) (.agg #[.int .i64 i, .int .i64 a0, .int .i64 a1, .int .i64 a2])).run Try.prog w = .ok true w := by
  have u3 := Try.underlying3
  have a3' := Try.isAgg3
  have z3 := Try.sizeOf3
  have z4 : Try.prog.cellsOf 32 = 3 := by kernel_rfl
  have hS : Try.prog.underlying 34 = some (.struct (Try.prog.fieldsOf 34)) := by kernel_rfl
  have hp : Try.prog.stoodInHeld 34 = false := by kernel_rfl
  have HE := fun w => eql_acc_same 9997 a0 a1 a2 w
  rw [show (10000 : Nat) = 9999 + 1 from rfl, run_equalIn_agg w 9999 34 _ _ hS hp]
  simp only [Program.fieldsOf, Try.underlying34]
  go_simp

def SameMRel (w : World) (n : Nat) (i : Value) (wr : World) : Prop := ∃ k : Nat, k ≤ n ∧ i = .int .i64 k ∧ Below w.heap.size w wr
set_option maxHeartbeats 2000000 in
theorem base_SameMembers_same {A B : Option Addr} {n : Nat} {l : List PO.Mem} (c d : Nat) {w : World} (hx : MemAt w A n l) (hy : MemAt w B n l) :
    Calls Try.prog 26 #[.slice A n c, .slice B n d] w fun e w' => e = .returned (.bool true) ∧ Below w.heap.size w w' := by
  have hn := hx.2.1
  have HX := Lib.hid hx
  have HY := Lib.hid hy
  clear hx hy
  go_enter Try.func26, Try.ntmps26
  go_wp2_with fail
  go_loopw [5] (fun i wr => SameMRel w n i wr) (fun i _ => n - (intOf i).toNat)
  case atStart => exact ⟨0, Nat.zero_le _, rfl, Below.refl _ _⟩
  case round =>
    obtain ⟨k, hk, rfl, hbel⟩ := hrel
    have j1 : (0 : Int) ≤ (k : Int) := by omega
    by_cases hlt : (k : Int) < n
    · obtain ⟨b, off, rfl, hb, hc⟩ := HX.out.2.2.2 (by omega)
      obtain ⟨b', off', rfl, hb', hc'⟩ := HY.out.2.2.2 (by omega)
      obtain ⟨x0, x1, x2, x3⟩ := (hc k (by omega)).keep hbel hb
      obtain ⟨y0, y1, y2, y3⟩ := (hc' k (by omega)).keep hbel hb'
      generalize l.getD k PO.m0 = m at *
      have EQ := eql_mem_same m.1 m.2.1 m.2.2.1 m.2.2.2
      clear hc hc'
      go_wp2_with fail
      go_quiet (fail)
      go_wp2_with fail
      go_roundw
      case rel => exact ⟨k + 1, by omega, by go_num, (by repeat (first | exact Below.refl _ _ | assumption | refine bel_drew ?_ | refine bel_drewN ?_ _ | refine bel_alloc ?_ _ | refine bel_set ?_ (by first | (dsimp only; omega) | (simp; done) | (simp; omega)) _ | refine bel_trans ?_ (by assumption)))⟩
      case measure => simp [intOf]; omega
    · go_wp2_with fail
      go_ret
      exact ⟨rfl, (by repeat (first | exact Below.refl _ _ | assumption | refine bel_drew ?_ | refine bel_drewN ?_ _ | refine bel_alloc ?_ _ | refine bel_set ?_ (by first | (dsimp only; omega) | (simp; done) | (simp; omega)) _ | refine bel_trans ?_ (by assumption)))⟩

theorem MemAt.set4 {w : World} {g n i : Nat} {l : List PO.Mem} (h : MemAt w (some ⟨g, 0, none⟩) n l) (hi : i < n) (c h' r : Int) (hb : Bd c ∧ Bd h' ∧ Bd r) :
    MemAt ((((w.setCell ⟨g, i * 4, none⟩ (.int .i64 (l.getD i PO.m0).1)).setCell ⟨g, i * 4 + 1, none⟩ (.int .i64 c)).setCell ⟨g, i * 4 + 2, none⟩ (.int .i64 h')).setCell ⟨g, i * 4 + 3, none⟩ (.int .i64 r)) (some ⟨g, 0, none⟩) n (l.set i ((l.getD i PO.m0).1, c, h', r)) := by
  refine MemAt.set3 ?_ hi c h' r hb
  obtain ⟨g', o', e, hg, hc⟩ := h.2.2.2 (by omega)
  obtain ⟨rfl, rfl⟩ : g = g' ∧ 0 = o' := by simpa using e
  refine ⟨h.1, h.2.1, h.2.2.1, fun h0 => ⟨g, 0, rfl, by simpa using hg, fun j hj => ?_⟩⟩
  have key : ∀ o, (w.setCell ⟨g, i * 4, none⟩ (.int .i64 (l.getD i PO.m0).1)).cell? ⟨g, o, none⟩ = w.cell? ⟨g, o, none⟩ := fun o => by
    by_cases e : o = i * 4
    · have x0 := (hc i hi).1
      rw [Nat.zero_add] at x0
      rw [e, World.cell?_setCell_same _ _ _ x0, x0]
    · exact World.cell?_setCell_other _ _ _ _ (by first | (simp; done) | (simp; exact fun h => e h.symm))
  obtain ⟨x0, x1, x2, x3⟩ := hc j hj
  exact ⟨(key _).trans x0, (key _).trans x1, (key _).trans x2, (key _).trans x3⟩
theorem OwnM.keep {B : Nat} {w w' : World} {v : Value} {l : List PO.Mem} (h : OwnM B w v l) (k : Below w.heap.size w w') : OwnM B w' v l := by
  refine ⟨h.1, ?_⟩
  rcases h.2 with ⟨rfl, e⟩ | ⟨g, cap, cur, rfl, hb, hg, r⟩
  · exact .inl ⟨rfl, e⟩
  · exact .inr ⟨g, cap, cur, rfl, hb, (k.block g (Array.getElem?_eq_some_iff.1 hg).1).trans hg, r⟩
theorem app_listM {ops : Array Oper} {rest : List Oper} {o : Oper} {a : Act} {Q : Exit → Act → World → Prop} {w : World} (hgd : o.guard = none) (s x : Operand)
    (ho : o.op = .call { callee := .builtin .append, args := #[s, x], argTypes := #[23, 23] })
    (B : Nat) (v : Value) (l : List PO.Mem) (hsv : a.eval s = v) (hown : OwnM B w v l)
    (A : Option Addr) (m c : Nat) (l2 : List PO.Mem) (hx : a.eval x = .slice A m c) (hs : SrcS 4 w A m (cellsM l2)) (hlen : l.length + m ≤ 1048576) (hbase : B ≤ w.heap.size)
    (h : ∀ v' w', OwnM B w' v' (l ++ l2) → Below B w w' → wpList Try.prog ops Q rest (a.put o.dst v') w') : wpList Try.prog ops Q (o :: rest) a w :=
  wpList_plain hgd fun _ hK => app_operM s x ho B v l hsv hown A m c l2 hx hs hlen hbase (fun v' w' h2 h3 => hK _ _ (h v' w' h2 h3))
/-- Of members of the call's own: the block. -/
theorem OwnM.block {B : Nat} {w : World} {v : Value} {l : List PO.Mem} (h : OwnM B w v l) (hb : ∀ m ∈ l, MemBd m) (h0 : 0 < l.length) : ∃ g c, v = .slice (some ⟨g, 0, none⟩) l.length c ∧ B ≤ g ∧ MemAt w (some ⟨g, 0, none⟩) l.length l ∧ ∀ o, w.frozen? ⟨g, o, none⟩ = false := by
  have hh := h
  rcases h.2 with ⟨rfl, e⟩ | ⟨g, cap, cur, rfl, hg, hgg, hn, hcm, hcs, hx⟩
  · omega
  · obtain ⟨A, c, e, i⟩ := OwnM.mem hh hb
    cases e
    exact ⟨g, cap, rfl, hg, i, fun o => by simp only [World.frozen?, hgg]; simp⟩

set_option maxRecDepth 100000 in
set_option maxHeartbeats 8000000 in
theorem ref29_After {A : Option Addr} {n : Nat} {l : List PO.Mem} (c : Nat) (at' x : Int) {w : World} (h : MemAt w A n l) (hn : n ≤ 1000) (ba : -9223372036854775808 ≤ at' ∧ at' ≤ 9223372036854775807) (bx : -9223372036854775808 ≤ x ∧ x ≤ 9223372036854775807) :
    Calls Try.prog 24 #[.slice A n c, .int .i64 at', .int .i64 x] w (GivesMem w (PO.after l at' x)) := by
  have e : PO.after l at' x = (if at' < 0 ∨ (l.length : Int) ≤ at' then ([], false) else if (PO.grant (l.getD at'.toNat PO.m0) x).2 ≠ 0 then ([], false) else (l.set at'.toNat ((l.getD at'.toNat PO.m0).1, (PO.grant (l.getD at'.toNat PO.m0) x).1), true)) := rfl
  rw [h.1] at e
  generalize PO.after l at' x = R at *
  by_cases h0 : at' < 0
  · rw [if_pos (.inl h0)] at e
    subst e
    clear h
    go_enter Try.func24, Try.ntmps24
    go_wp2_with fail
    exact bodyPost_ret (v := .tuple #[.slice none 0 0, .bool false]) (by simp [results, Try.results24, go_sem]) rfl ⟨none, 0, 0, rfl, MemAt.nil, (by repeat (first | exact Below.refl _ _ | assumption | refine bel_drew ?_ | refine bel_drewN ?_ _ | refine bel_alloc ?_ _ | refine bel_set ?_ (by first | (dsimp only; omega) | (simp; done) | (simp; omega)) _ | refine bel_trans ?_ (by assumption)))⟩
  · by_cases h1 : (n : Int) ≤ at'
    · rw [if_pos (.inr h1)] at e
      subst e
      clear h
      go_enter Try.func24, Try.ntmps24
      go_wp2_with fail
      exact bodyPost_ret (v := .tuple #[.slice none 0 0, .bool false]) (by simp [results, Try.results24, go_sem]) rfl ⟨none, 0, 0, rfl, MemAt.nil, (by repeat (first | exact Below.refl _ _ | assumption | refine bel_drew ?_ | refine bel_drewN ?_ _ | refine bel_alloc ?_ _ | refine bel_set ?_ (by first | (dsimp only; omega) | (simp; done) | (simp; omega)) _ | refine bel_trans ?_ (by assumption)))⟩
    · rw [if_neg (by omega)] at e
      obtain ⟨k, rfl⟩ : ∃ k : Nat, at' = k := ⟨at'.toNat, by omega⟩
      rw [Int.toNat_natCast] at e
      have hk : k < n := by omega
      obtain ⟨b, off, rfl, hb, hcs⟩ := h.2.2.2 (by omega)
      obtain ⟨x0, x1, x2, x3⟩ := hcs k hk
      have bd := h.bd hk
      have hset := fun (X : World) (g : Nat) (hX : MemAt X (some ⟨g, 0, none⟩) n l) (c h' r : Int) (hb : Bd c ∧ Bd h' ∧ Bd r) => hX.set4 hk c h' r hb
      obtain ⟨m, hm⟩ : ∃ m, l.getD k PO.m0 = m := ⟨_, rfl⟩
      rw [hm] at x0 x1 x2 x3 bd e
      simp only [hm] at hset
      have KG := fun W => ref26_Do2 m.2.1 m.2.2.1 m.2.2.2 x W bd.2.1 bd.2.2.1 bd.2.2.2 bx
      have hgr : PO.grant m x = PA.doo 2 m.2.1 m.2.2.1 m.2.2.2 x := rfl
      rw [hgr] at e
      have hbd : (PA.doo 2 m.2.1 m.2.2.1 m.2.2.2 x).2 = 0 → Bd (PA.doo 2 m.2.1 m.2.2.1 m.2.2.2 x).1.1 ∧ Bd (PA.doo 2 m.2.1 m.2.2.1 m.2.2.2 x).1.2.1 ∧ Bd (PA.doo 2 m.2.1 m.2.2.1 m.2.2.2 x).1.2.2 := fun h => doo_bd h
      generalize PA.doo 2 m.2.1 m.2.2.1 m.2.2.2 x = G at *
      obtain ⟨⟨g1, g2, g3⟩, g4⟩ := G
      dsimp only at KG e hbd
      replace KG := Lib.hid KG
      have H := Lib.hid h
      have HCM : Hid (MemCells w b (off + k * 4) m) := Lib.hid (by rw [← hm]; exact hcs k hk)
      have hlt : (k : Int) < (n : Int) := by omega
      have j0 : (0 : Int) ≤ (k : Int) := by omega
      clear hcs hm hgr bd h
      by_cases hg : g4 = 0
      · rw [if_neg (by simp [hg])] at e
        have hbd' := hbd hg
        subst e hg
        have HBD := Lib.hid hbd'
        have HSET := Lib.hid hset
        clear hbd hbd' hset
        go_enter Try.func24, Try.ntmps24
        go_wp2_with fail
        refine (KG.out _).mono ?_
        rintro e w1 ⟨rfl, h1⟩
        have OE : Hid (OwnM (w1.heap.size + 1) ((w1.alloc (.cells #[.int .i64 g1, .int .i64 g2, .int .i64 g3] 32)).alloc (.cells #[] 34)) (.slice (some ⟨w1.heap.size + 1, 0, none⟩) 0 0) []) := Lib.hid (by
          have q := own_emptyS 4 (w1.alloc (.cells #[.int .i64 g1, .int .i64 g2, .int .i64 g3] 32)) 34
          simp only [World.size_alloc] at q
          exact q)
        clear x0 x1 x2 x3
        go_wp2_with (at_builtin; refine app_listM rfl (.tmp 31) (.tmp 32) rfl (w1.heap.size + 1) _ [] rfl OE.out _ n c l rfl (srcM_of (H.out.keep (by exact (by repeat (first | exact Below.refl _ _ | assumption | refine bel_drew ?_ | refine bel_drewN ?_ _ | refine bel_alloc ?_ _ | refine bel_set ?_ (by first | (dsimp only; omega) | (simp; done) | (simp; omega)) _ | refine bel_trans ?_ (by assumption)))))) (by simp; omega) (by simp) ?_; intro v5 w5 ho5 hb5; rw [List.nil_append] at ho5; obtain ⟨g, c5, rfl, hg5, i5, f5⟩ := OwnM.block ho5 H.out.2.2.1 (by rw [H.out.1]; omega); rw [H.out.1] at i5)
        have d5 : Below w.heap.size w w5 := bel_trans' (show Below w.heap.size w _ from (by repeat (first | exact Below.refl _ _ | assumption | refine bel_drew ?_ | refine bel_drewN ?_ _ | refine bel_alloc ?_ _ | refine bel_set ?_ (by first | (dsimp only; omega) | (simp; done) | (simp; omega)) _ | refine bel_trans ?_ (by assumption)))) hb5 (by have := h1.size; omega)
        obtain ⟨x0, x1, x2, x3⟩ := HCM.out.keep d5 hb
        have a0 : w5.cell? ⟨w1.heap.size, 0, none⟩ = some (.int .i64 g1) := (hb5.cell (by dsimp only; omega)).trans (by simp [go_sem])
        have a1 : w5.cell? ⟨w1.heap.size, 1, none⟩ = some (.int .i64 g2) := (hb5.cell (by dsimp only; omega)).trans (by simp [go_sem])
        have a2 : w5.cell? ⟨w1.heap.size, 2, none⟩ = some (.int .i64 g3) := (hb5.cell (by dsimp only; omega)).trans (by simp [go_sem])
        obtain ⟨gq, oq, eq, hgq, hcq⟩ := i5.2.2.2 (by omega)
        obtain ⟨rfl, rfl⟩ : g = gq ∧ 0 = oq := by simpa using eq
        obtain ⟨y0, y1, y2, y3⟩ := hcq k hk
        simp only [Nat.zero_add] at y0 y1 y2 y3
        have f50 := f5 (k * 4)
        have f51 := f5 (k * 4 + 1)
        have f52 := f5 (k * 4 + 2)
        have f53 := f5 (k * 4 + 3)
        have HS := Lib.hid (HSET.out w5 g i5 g1 g2 g3 HBD.out)
        have hsz := h1.size
        rw [H.out.1]
        clear f5 hcq i5 ho5 hb5
        have hcd : ∀ a, ({ heap := w5.heap, tape := w5.tape, drawn := w5.drawn + 1, os := w5.os, output := w5.output } : World).cell? a = w5.cell? a := fun _ => rfl
        have hcf : ∀ a, ({ heap := w5.heap, tape := w5.tape, drawn := w5.drawn + 1, os := w5.os, output := w5.output } : World).frozen? a = w5.frozen? a := fun _ => rfl
        go_still_tail 10, (by kernel_rfl)
        go_wp2_with fail
        have hbF : Below w.heap.size w ((((w5.setCell ⟨g, k * 4, none⟩ (.int .i64 m.1)).setCell ⟨g, k * 4 + 1, none⟩ (.int .i64 g1)).setCell ⟨g, k * 4 + 2, none⟩ (.int .i64 g2)).setCell ⟨g, k * 4 + 3, none⟩ (.int .i64 g3)) := (((d5.setCell (by dsimp only; omega) _).setCell (by dsimp only; omega) _).setCell (by dsimp only; omega) _).setCell (by dsimp only; omega) _
        first
          | exact bodyPost_ret (v := .tuple #[.slice (some ⟨g, 0, none⟩) n c5, .bool true]) (by simp [results, Try.results24, go_sem]) rfl ⟨_, n, c5, rfl, HS.out, hbF⟩
          | exact bodyPost_ret (v := .tuple #[.slice (some ⟨g, 0, none⟩) n c5, .bool true]) (by simp [results, Try.results24, go_sem]) rfl ⟨_, n, c5, rfl, HS.out.keep (Below.refl _ _).drew, hbF.drew⟩
      · rw [if_pos hg] at e
        subst e
        have q1 : (g4 != 0) = true := by simpa using hg
        clear hset hbd hg
        go_enter Try.func24, Try.ntmps24
        go_wp2_with fail
        refine (KG.out _).mono ?_
        rintro e w1 ⟨rfl, h1⟩
        go_wp2_with fail
        exact bodyPost_ret (v := .tuple #[.slice none 0 0, .bool false]) (by simp [results, Try.results24, go_sem]) rfl ⟨none, 0, 0, rfl, MemAt.nil, (by repeat (first | exact Below.refl _ _ | assumption | refine bel_drew ?_ | refine bel_drewN ?_ _ | refine bel_alloc ?_ _ | refine bel_set ?_ (by first | (dsimp only; omega) | (simp; done) | (simp; omega)) _ | refine bel_trans ?_ (by assumption)))⟩

theorem bmay_eq {f w a x : Int} {l : List PO.Mem} (h1 : 1 ≤ x) (h2 : x ≤ f) (h3 : f ≤ 1048576) (h4 : w ≤ 1048576 - f) : PO.bmay f w l a x = ((PO.after l a x).2 && PO.bsafe (f - x) w (PO.after l a x).1) := by
  unfold PO.bmay
  by_cases hw : w < 0
  · rw [if_pos (.inl (by simp [PO.bad, hw]))]
    have : PO.bsafe (f - x) w (PO.after l a x).1 = false := by
      unfold PO.bsafe
      rw [if_pos (by simp [PO.bad, hw])]
    rw [this, Bool.and_false]
  · rw [if_neg]
    rintro (h | h)
    · rw [PO.bad_iff.2 ⟨by omega, by omega, by omega, by omega⟩] at h; cases h
    · omega
theorem bmay_no {f w a x : Int} {l : List PO.Mem} (h : x < 1 ∨ f < x ∨ 1048576 < f ∨ 1048576 - f < w) : PO.bmay f w l a x = false := by
  cases hb : PO.bmay f w l a x
  · rfl
  · obtain ⟨k, _, _, h1, h2, h3, _⟩ := bmay_facts hb
    have := PO.bad_iff.1 h1
    omega
set_option maxRecDepth 100000 in
theorem ref29_May {A : Option Addr} {n : Nat} {l : List PO.Mem} (c : Nat) (f w at' x : Int) {W : World} (h : MemAt W A n l) (hn : n ≤ 1000) (bf : -9223372036854775808 ≤ f ∧ f ≤ 9223372036854775807) (bw : -9223372036854775808 ≤ w ∧ w ≤ 9223372036854775807) (ba : -9223372036854775808 ≤ at' ∧ at' ≤ 9223372036854775807) (bx : -9223372036854775808 ≤ x ∧ x ≤ 9223372036854775807) :
    Calls Try.prog 25 #[.int .i64 f, .int .i64 w, .slice A n c, .int .i64 at', .int .i64 x] W fun e W' => e = .returned (.bool (PO.bmay f w l at' x)) ∧ Below W.heap.size W W' := by
  have K2 : Hid (∀ X, Below W.heap.size W X → Calls Try.prog 24 #[.slice A n c, .int .i64 at', .int .i64 x] X (GivesMem X (PO.after l at' x))) := Lib.hid (fun X hX => ref29_After c at' x (h.keep hX) hn ba bx)
  have hlen := after_len l at' x
  rw [h.1] at hlen
  clear h
  by_cases h1 : x < 1
  · rw [bmay_no (.inl h1)]
    have g1 : decide (x < 1) = true := decide_eq_true h1
    clear K2
    go_enter Try.func25, Try.ntmps25
    go_wp2_with fail
    exact bodyPost_ret (v := .bool false) (by simp [results, Try.results25, go_sem]) rfl ⟨rfl, (by repeat (first | exact Below.refl _ _ | assumption | refine bel_drew ?_ | refine bel_drewN ?_ _ | refine bel_alloc ?_ _ | refine bel_set ?_ (by first | (dsimp only; omega) | (simp; done) | (simp; omega)) _ | refine bel_trans ?_ (by assumption)))⟩
  · have g1 : decide (x < 1) = false := decide_eq_false h1
    by_cases h2 : f < x
    · rw [bmay_no (.inr (.inl h2))]
      have g2 : decide (f < x) = true := decide_eq_true h2
      clear K2
      go_enter Try.func25, Try.ntmps25
      go_wp2_with fail
      exact bodyPost_ret (v := .bool false) (by simp [results, Try.results25, go_sem]) rfl ⟨rfl, (by repeat (first | exact Below.refl _ _ | assumption | refine bel_drew ?_ | refine bel_drewN ?_ _ | refine bel_alloc ?_ _ | refine bel_set ?_ (by first | (dsimp only; omega) | (simp; done) | (simp; omega)) _ | refine bel_trans ?_ (by assumption)))⟩
    · have g2 : decide (f < x) = false := decide_eq_false h2
      by_cases h3 : 1048576 < f
      · rw [bmay_no (.inr (.inr (.inl h3)))]
        have g3 : decide (1048576 < f) = true := decide_eq_true h3
        clear K2
        go_enter Try.func25, Try.ntmps25
        go_wp2_with fail
        exact bodyPost_ret (v := .bool false) (by simp [results, Try.results25, go_sem]) rfl ⟨rfl, (by repeat (first | exact Below.refl _ _ | assumption | refine bel_drew ?_ | refine bel_drewN ?_ _ | refine bel_alloc ?_ _ | refine bel_set ?_ (by first | (dsimp only; omega) | (simp; done) | (simp; omega)) _ | refine bel_trans ?_ (by assumption)))⟩
      · have g3 : decide (1048576 < f) = false := decide_eq_false h3
        by_cases h4 : 1048576 - f < w
        · rw [bmay_no (.inr (.inr (.inr h4)))]
          have g4 : decide (1048576 - f < w) = true := decide_eq_true h4
          clear K2
          go_enter Try.func25, Try.ntmps25
          go_wp2_with fail
          exact bodyPost_ret (v := .bool false) (by simp [results, Try.results25, go_sem]) rfl ⟨rfl, (by repeat (first | exact Below.refl _ _ | assumption | refine bel_drew ?_ | refine bel_drewN ?_ _ | refine bel_alloc ?_ _ | refine bel_set ?_ (by first | (dsimp only; omega) | (simp; done) | (simp; omega)) _ | refine bel_trans ?_ (by assumption)))⟩
        · have g4 : decide (1048576 - f < w) = false := decide_eq_false h4
          rw [bmay_eq (by omega) (by omega) (by omega) (by omega)]
          have wx : IntKind.i64.wrap (f - x) = f - x := IntWalk.i64_in _ (by omega)
          generalize PO.after l at' x = G at *
          obtain ⟨l', q⟩ := G
          dsimp only at hlen ⊢
          have K3 : Hid (∀ X A' n' c', MemAt X A' n' l' → Calls Try.prog 18 #[.int .i64 (f - x), .int .i64 w, .slice A' n' c'] X fun e W' => e = .returned (.bool (PO.bsafe (f - x) w l')) ∧ Below X.heap.size X W') := Lib.hid (fun X A' n' c' hM => ref29_Safe c' (f - x) w hM (by have := hM.1; omega) (by omega) bw)
          generalize PO.bsafe (f - x) w l' = r at *
          clear hlen
          rcases q with _ | _
          · go_enter Try.func25, Try.ntmps25
            go_wp2_with fail
            refine (K2.out _ (by exact (by repeat (first | exact Below.refl _ _ | assumption | refine bel_drew ?_ | refine bel_drewN ?_ _ | refine bel_alloc ?_ _ | refine bel_set ?_ (by first | (dsimp only; omega) | (simp; done) | (simp; omega)) _ | refine bel_trans ?_ (by assumption))))).mono ?_
            rintro e w2 ⟨A2, n2, c2, rfl, i2, h2⟩
            clear i2
            go_wp2_with fail
            exact bodyPost_ret (v := .bool false) (by simp [results, Try.results25, go_sem]) rfl ⟨by simp, (by repeat (first | exact Below.refl _ _ | assumption | refine bel_drew ?_ | refine bel_drewN ?_ _ | refine bel_alloc ?_ _ | refine bel_set ?_ (by first | (dsimp only; omega) | (simp; done) | (simp; omega)) _ | refine bel_trans ?_ (by assumption)))⟩
          · go_enter Try.func25, Try.ntmps25
            go_wp2_with fail
            refine (K2.out _ (by exact (by repeat (first | exact Below.refl _ _ | assumption | refine bel_drew ?_ | refine bel_drewN ?_ _ | refine bel_alloc ?_ _ | refine bel_set ?_ (by first | (dsimp only; omega) | (simp; done) | (simp; omega)) _ | refine bel_trans ?_ (by assumption))))).mono ?_
            rintro e w2 ⟨A2, n2, c2, rfl, i2, h2⟩
            have K4 := Lib.hid (K3.out _ _ _ c2 i2)
            clear i2
            go_wp2_with fail
            refine K4.out.mono ?_
            rintro e w3 ⟨rfl, h3⟩
            go_wp2_with fail
            exact bodyPost_ret (v := .bool r) (by simp [results, Try.results25, go_sem]) rfl ⟨by simp, (by repeat (first | exact Below.refl _ _ | assumption | refine bel_drew ?_ | refine bel_drewN ?_ _ | refine bel_alloc ?_ _ | refine bel_set ?_ (by first | (dsimp only; omega) | (simp; done) | (simp; omega)) _ | refine bel_trans ?_ (by assumption)))⟩

def which (f w : Int) (l : List PO.Mem) (x : Int) (k : Nat) : List Nat := (List.range k).filter (fun i => PO.bmay f w l i x)
theorem which_succ (f w : Int) (l : List PO.Mem) (x : Int) (k : Nat) : which f w l x (k + 1) = if PO.bmay f w l k x = true then which f w l x k ++ [k] else which f w l x k := by
  unfold which
  rw [List.range_succ, List.filter_append]
  split <;> simp_all
theorem which_len (f w : Int) (l : List PO.Mem) (x : Int) (k : Nat) : (which f w l x k).length ≤ k := by
  have := List.length_filter_le (fun i : Nat => PO.bmay f w l i x) (List.range k)
  rwa [List.length_range] at this
def WhichRel (W : World) (f w : Int) (l : List PO.Mem) (x : Int) (n : Nat) (out i : Value) (wr : World) : Prop :=
  ∃ (k : Nat) (A : Option Addr) (c : Nat), k ≤ n ∧ i = .int .i64 k ∧ out = .slice A (which f w l x k).length c ∧ OwnI W.heap.size wr (.slice A (which f w l x k).length c) (PO.ints (which f w l x k)) ∧ Below W.heap.size W wr
set_option maxRecDepth 100000 in
set_option maxHeartbeats 4000000 in
theorem ref29_Which {A : Option Addr} {n : Nat} {l : List PO.Mem} (c : Nat) (f w x : Int) {W : World} (h : MemAt W A n l) (hn : n ≤ 1000) (bf : -9223372036854775808 ≤ f ∧ f ≤ 9223372036854775807) (bw : -9223372036854775808 ≤ w ∧ w ≤ 9223372036854775807) (bx : -9223372036854775808 ≤ x ∧ x ≤ 9223372036854775807) :
    Calls Try.prog 29 #[.int .i64 f, .int .i64 w, .slice A n c, .int .i64 x] W fun e W' => ∃ v, e = .returned v ∧ OwnI W.heap.size W' v (PO.ints (which f w l x n)) ∧ Below W.heap.size W W' := by
  have KM : Hid (∀ X, Below W.heap.size W X → ∀ k : Nat, k < n → Calls Try.prog 25 #[.int .i64 f, .int .i64 w, .slice A n c, .int .i64 (k : Int), .int .i64 x] X fun e W' => e = .returned (.bool (PO.bmay f w l k x)) ∧ Below X.heap.size X W') := Lib.hid (fun X hX k hk => ref29_May c f w k x (h.keep hX) hn bf bw (by omega) bx)
  clear h
  go_enter Try.func29, Try.ntmps29
  go_wp2_with fail
  go_loopw [9, 10] (fun out i wr => WhichRel W f w l x n out i wr) (fun _ i _ => n - (intOf i).toNat)
  case atStart => exact ⟨0, none, 0, Nat.zero_le _, rfl, rfl, OwnI.nil _ _, (by repeat (first | exact Below.refl _ _ | assumption | refine bel_drew ?_ | refine bel_drewN ?_ _ | refine bel_alloc ?_ _ | refine bel_set ?_ (by first | (dsimp only; omega) | (simp; done) | (simp; omega)) _ | refine bel_trans ?_ (by assumption)))⟩
  case round =>
    obtain ⟨k, A2, c2, hk, rfl, rfl, ho, hbel⟩ := hrel
    have HO := Lib.hid ho
    clear ho
    have j1 : (0 : Int) ≤ (k : Int) := by omega
    have hwl := which_len f w l x k
    by_cases hlt : (k : Int) < n
    · have K := KM.out wr hbel k (by omega)
      have hws := which_succ f w l x k
      cases hb : PO.bmay f w l k x
      · rw [hb] at K hws
        rw [if_neg (by simp)] at hws
        replace K := Lib.hid K
        generalize which f w l x k = D at *
        have HWS := Lib.hid hws
        clear hb hws
        go_wp2_with fail
        refine K.out.mono ?_
        rintro e w1 ⟨rfl, h1⟩
        go_wp2_with fail
        go_roundw
        case rel => exact ⟨k + 1, A2, c2, by omega, by go_num, by rw [HWS.out], by rw [HWS.out]; exact HO.out.keep h1, (by repeat (first | exact Below.refl _ _ | assumption | refine bel_drew ?_ | refine bel_drewN ?_ _ | refine bel_alloc ?_ _ | refine bel_set ?_ (by first | (dsimp only; omega) | (simp; done) | (simp; omega)) _ | refine bel_trans ?_ (by assumption)))⟩
        case measure => simp [intOf]; omega
      · rw [hb] at K hws
        rw [if_pos rfl] at hws
        replace K := Lib.hid K
        generalize which f w l x k = D at *
        have HWS := Lib.hid hws
        clear hb hws
        go_wp2_with fail
        refine K.out.mono ?_
        rintro e w1 ⟨rfl, h1⟩
        have b1 := bel_trans hbel h1
        go_wp2_with (at_builtin; refine app_listI rfl (.tmp 23) (.tmp 25) rfl W.heap.size _ (PO.ints D) rfl (HO.out.keep (bel_alloc h1 _)) (some ⟨w1.heap.size, 0, none⟩) 1 1 [(k : Int)] rfl (src_oneI (by simp [go_sem])) (by rw [PO.ints_len]; omega) (by have := b1.size; simp; omega) ?_; intro v9 w9 ho9 hb9; rw [← PO.ints_snoc] at ho9; obtain ⟨A9, c9, rfl, _⟩ := ho9.slice; replace ho9 := Lib.hid ho9; have b9 := bel_trans' (bel_alloc b1 (.cells #[.int .i64 (k : Int)] 3)) hb9 (Nat.le_refl _))
        go_roundw
        case rel => exact ⟨k + 1, A9, c9, by omega, by go_num, by rw [HWS.out, List.length_append]; rfl, by rw [HWS.out]; exact ho9.out, b9⟩
        case measure => simp [intOf]; omega
    · obtain rfl : k = n := by omega
      go_wp2_with fail
      go_ret
      exact ⟨_, rfl, HO.out, (by repeat (first | exact Below.refl _ _ | assumption | refine bel_drew ?_ | refine bel_drewN ?_ _ | refine bel_alloc ?_ _ | refine bel_set ?_ (by first | (dsimp only; omega) | (simp; done) | (simp; omega)) _ | refine bel_trans ?_ (by assumption)))⟩
end Go.Proofs.Ythmjbfocpdiikaa
