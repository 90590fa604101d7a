/-
  Layer 8 (spans): the reference's Merge.
-/
import Derived.Test.YtfgfnfjeopjbgaaSpanT
namespace Go.Proofs.Ytfgfnfjeopjbgaa
open Go.RowKit
set_option linter.unusedVariables false
set_option linter.unusedSimpArgs false
attribute [local go_sem] drewN_alloc drewN_setCell

/-- append in a region that draws; other blocks stay. -/
theorem app_oper2 {o : Oper} {a : Act} {K : Act → World → Prop} {Q : Exit → Act → World → Prop} {w : World} (s x : Operand)
    (ho : o.op = .call { callee := .builtin .append, args := #[s, x], argTypes := #[30, 30] })
    (B : Nat) (v : Value) (l : List PS.Sp) (hsv : a.eval s = v) (hown : OwnS B w v l)
    (A : Option Addr) (m c : Nat) (l2 : List PS.Sp) (hx : a.eval x = .slice A m c) (hs : SrcS 2 w A m (cellsS l2)) (hlen : l.length + m ≤ 1048576) (hbase : B ≤ w.heap.size)
    (h : ∀ v' w', OwnS B w' v' (l ++ l2) → Below B w w' → w.grownBy w' v.ownBlock → K (a.put o.dst v') w') : o.wp Try.prog a w K Q := by
  obtain ⟨i, hi, hz, hsz, hby⟩ := infoSpan
  refine wp_append_S w 2 (by decide) s x 30 ho B 37 i _ 16 Try.underlying30 hi hz hsz hby rfl v l.length _ hsv hown A m c _ hx hs (cellsS_one' l2) (by unfold maxLen; omega) (by omega) hbase (fun v' w' h2 h3 h4 => ?_)
  refine h v' w' ?_ ((Below.refl B w).grown h3 hbase (fun g hg => (hown.lt g hg).1)) h3
  have hm : m = l2.length := by have := hs.1; rw [cellsS_len] at this; omega
  unfold OwnS
  rw [cellsS_append, List.length_append, ← hm]
  exact h2

def lenV : Value → Nat
  | .slice _ n _ => n
  | _ => 0
theorem lenV_slice (a : Option Addr) (n c : Nat) : lenV (.slice a n c) = n := rfl
theorem own_lenV {B : Nat} {w : World} {v : Value} {l : List PS.Sp} (h : OwnS B w v l) : lenV v = l.length := by
  rcases h.2 with ⟨rfl, e⟩ | ⟨g, cap, cur, rfl, _⟩
  · rw [e]; rfl
  · rfl
theorem own_form {B : Nat} {w : World} {v : Value} {l : List PS.Sp} (h : OwnS B w v l) (h0 : 0 < l.length) : ∃ g cap, v = .slice (some ⟨g, 0, none⟩) l.length cap ∧ g < w.heap.size ∧ l.length ≤ cap ∧ cap ≤ 9223372036854775807 := by
  rcases h.2 with ⟨rfl, e⟩ | ⟨g, cap, cur, rfl, hb, hg, hn, hcm, -⟩
  · omega
  · refine ⟨g, cap, rfl, ?_, hn, by unfold maxLen at hcm; omega⟩
    rcases Nat.lt_or_ge g w.heap.size with hl | hge
    · exact hl
    · rw [Array.getElem?_eq_none hge] at hg; cases hg

theorem ml_at {l out : List PS.Sp} {p : PS.Sp} {k : Nat} (hk : k ≤ l.length) : (out ++ [p] ++ l.drop k).length = out.length + 1 + (l.length - k) ∧
    (∀ h : out.length < (out ++ [p] ++ l.drop k).length, (out ++ [p] ++ l.drop k)[out.length] = p) ∧
    (∀ (h : out.length + 1 < (out ++ [p] ++ l.drop k).length) (hk' : k < l.length), (out ++ [p] ++ l.drop k)[out.length + 1] = l[k]) ∧
    (out ++ [p] ++ l.drop k).take out.length = out ∧ (out ++ [p] ++ l.drop k).drop (out.length + 2) = l.drop (k + 1) := by
  refine ⟨by simp; omega, fun h => ?_, fun h hk' => ?_, by simp, ?_⟩
  · have e : (out ++ [p] ++ l.drop k)[out.length]? = some p := by simp
    exact (List.getElem?_eq_some_iff.1 e).2
  · have e : (out ++ [p] ++ l.drop k)[out.length + 1]? = some l[k] := by
      rw [List.getElem?_append_right (by simp)]
      simp [hk']
    exact (List.getElem?_eq_some_iff.1 e).2
  · rw [List.drop_append]
    have e1 : (out ++ [p]).drop (out.length + 2) = [] := List.drop_of_length_le (by simp)
    have e2 : out.length + 2 - (out ++ [p]).length = 1 := by simp
    rw [e1, List.nil_append, e2, List.drop_drop, Nat.add_comm]

def mergeV (l : List PS.Sp) : List PS.Sp := if PS.right l = true then PS.mergeL l else []
theorem spans_Merge {A : Option Addr} {n : Nat} {l : List PS.Sp} (c : Nat) {w : World} (h : SpansAt w A n l) (hn : n ≤ 1000) :
    Calls Try.prog 64 #[.slice A n c] w (GivesL w (mergeV l).length (mergeV l) (PS.right l)) := by
  unfold mergeV
  rcases hr : PS.right l with _ | _
  · rw [if_neg (by simp)]
    exact spans_Merge_no c h hr
  · rw [if_pos rfl]
    by_cases h0 : 0 < n
    · obtain ⟨b, off, rfl, -, -⟩ := h.2.2.2 h0
      exact spans_Merge_some b off n c l w h hn hr
    · obtain rfl : n = 0 := by omega
      obtain rfl := List.eq_nil_of_length_eq_zero h.1
      exact spans_Merge_empty A c w

theorem ref08_Merge_no {A : Option Addr} {n : Nat} {l : List PS.Sp} (c : Nat) {w : World} (h : SpansAt w A n l) (hr : PS.right l = false) :
    Calls Try.prog 65 #[.slice A n c] w (GivesL w 0 [] false) := by
  have K := ref08_Right c h
  have HG : ∀ w', Below w.heap.size w w' → GivesL w 0 [] false (.returned (.tuple #[.slice none 0 0, .bool false])) w' := fun w' hb => ⟨none, 0, rfl, SpansAt.nil, ⟨Nat.le_refl _, by omega, fun _ => rfl, fun ad e => by simp at e⟩, hb⟩
  replace HG := Lib.hid HG
  rw [hr] at K
  replace K := Lib.hid K
  clear h hr
  go_enter Try.func65, Try.ntmps65
  go_wp2_with fail
  refine K.out.mono ?_
  rintro e w5 ⟨rfl, h5⟩
  go_wp2_with fail
  go_ret2
  exact HG.out _ (by repeat (first | exact Below.refl _ _ | assumption | refine bel_drew ?_ | refine bel_drewN ?_ _ | refine bel_alloc ?_ _ | refine bel_set ?_ (by first | (dsimp only; omega) | (simp; done) | (simp; omega)) _ | refine bel_trans ?_ (by assumption)))

theorem ref08_Merge_empty (A : Option Addr) (c : Nat) (w : World) :
    Calls Try.prog 65 #[.slice A 0 c] w (GivesL w 0 [] true) := by
  have K := ref08_Right c (SpansAt.nil (A := A) (w := w))
  rw [show PS.right [] = true from rfl] at K
  have HFIN : Hid (∀ v w' B, w.heap.size ≤ B → OwnS B w' v [] → Below w.heap.size w w' → ∃ A' c', v = .slice A' 0 c' ∧ GivesL w 0 [] true (.returned (.tuple #[.slice A' 0 c', .bool true])) w') := Lib.hid (fun v w' B hB ho hb => by
    obtain ⟨A', c', rfl, hs, hc⟩ := ho.val (fun s hs => by simp at hs)
    exact ⟨A', c', rfl, A', c', rfl, hs, hc, hb⟩)
  replace K := Lib.hid K
  go_enter Try.func65, Try.ntmps65
  go_wp2_with fail
  refine K.out.mono ?_
  rintro e w1 ⟨rfl, h1⟩
  have hz1 := h1.size
  have hown : OwnS w1.heap.size (w1.alloc (.cells #[] 37)) (.slice (some ⟨w1.heap.size, 0, none⟩) 0 0) [] := own_emptyS 2 w1 _
  replace hown := Lib.hid hown
  go_wp2_with (at_builtin; refine app_list2 rfl (.tmp 10) (.tmp 11) rfl w1.heap.size _ [] rfl hown.out A 0 c [] rfl src0 (by simp) (by simp) ?_; intro v1 w2 ho1 hb1 hg1; have hb1' := bel_trans' (show Below w.heap.size w _ from (by repeat (first | exact Below.refl _ _ | assumption | refine bel_drew ?_ | refine bel_drewN ?_ _ | refine bel_alloc ?_ _ | refine bel_set ?_ (by first | (dsimp only; omega) | (simp; done) | (simp; omega)) _ | refine bel_trans ?_ (by assumption)))) hb1 hz1; obtain ⟨A', c', rfl, hfin⟩ := HFIN.out _ _ _ hz1 ho1 hb1'; replace hfin := Lib.hid hfin; clear hg1 hb1 ho1)
  refine wp_loop_rounds 1 ?_
  rw [rounds_succ]
  go_wp2_with fail
  go_ret2
  exact hfin.out

def RMRel (w : World) (l : List PS.Sp) (n : Nat) (v i : Value) (wr : World) : Prop :=
  ∃ (k : Nat) (out : List PS.Sp) (p : PS.Sp), 1 ≤ k ∧ k ≤ n ∧ i = .int .i64 out.length ∧ PS.mergeL (l.take k) = out ++ [p] ∧ OwnS w.heap.size wr v (out ++ [p] ++ l.drop k) ∧ Below w.heap.size w wr

set_option maxRecDepth 100000 in
set_option maxHeartbeats 32000000 in
theorem ref08_Merge_some (b off n c : Nat) (l : List PS.Sp) (w : World) (h : SpansAt w (some ⟨b, off, none⟩) n l) (h0 : 0 < n) (hn : n ≤ 1000) (hr : PS.right l = true) :
    Calls Try.prog 65 #[.slice (some ⟨b, off, none⟩) n c] w (GivesL w (PS.mergeL l).length (PS.mergeL l) true) := by
  have K := ref08_Right c h
  rw [hr] at K
  have HLn := h.1
  have HBD := h.2.2.1
  have HFIN : Hid (∀ v w', OwnS w.heap.size w' v (PS.mergeL l) → Below w.heap.size w w' → GivesL w (PS.mergeL l).length (PS.mergeL l) true (.returned (.tuple #[v, .bool true])) w') := Lib.hid (fun v w' ho hb => by
    obtain ⟨A, c', rfl, hs, hc⟩ := ho.val (merge_bd hr)
    exact ⟨A, c', rfl, hs, hc, hb⟩)
  obtain ⟨PO, hPO⟩ : ∃ PO, GivesL w (PS.mergeL l).length (PS.mergeL l) true = PO := ⟨_, rfl⟩
  rw [hPO] at HFIN ⊢
  have H' := Lib.hid h
  replace K := Lib.hid K
  replace HLn := Lib.hid HLn
  replace HBD := Lib.hid HBD
  replace hr := Lib.hid hr
  clear h hPO
  go_enter Try.func65, Try.ntmps65
  go_wp2_with fail
  refine K.out.mono ?_
  rintro e w1 ⟨rfl, h1⟩
  have hz1 := h1.size
  have hown : OwnS w1.heap.size (w1.alloc (.cells #[] 37)) (.slice (some ⟨w1.heap.size, 0, none⟩) 0 0) [] := own_emptyS 2 w1 _
  have hsrc := (H'.out.keep (bel_alloc h1 (.cells #[] 37))).src'
  replace hown := Lib.hid hown
  replace hsrc := Lib.hid hsrc
  go_wp2_with (at_builtin; refine app_list2 rfl (.tmp 10) (.tmp 11) rfl w1.heap.size _ [] rfl hown.out (some ⟨b, off, none⟩) n c l rfl hsrc.out (by simp; omega) (by simp) ?_; intro v1 w2 ho1 hb1 hg1; have hb1' := bel_trans' (show Below w.heap.size w _ from (by repeat (first | exact Below.refl _ _ | assumption | refine bel_drew ?_ | refine bel_drewN ?_ _ | refine bel_alloc ?_ _ | refine bel_set ?_ (by first | (dsimp only; omega) | (simp; done) | (simp; omega)) _ | refine bel_trans ?_ (by assumption)))) hb1 hz1; have ho1' : OwnS w.heap.size w2 v1 l := ho1.mono hz1; replace ho1' := Lib.hid ho1'; clear hg1 hb1 ho1)
  go_loopw [4, 5] (fun v i wr => RMRel w l n v i wr) (fun v i _ => lenV v - (intOf i).toNat)
  case atStart =>
    have hl0 : 0 < l.length := by rw [HLn.out]; exact h0
    have e1 : PS.mergeL (l.take 1) = [] ++ [l[0]] := by
      have := PS.merge_step (l := l) (k := 0) hl0
      rw [show PS.mergeL (l.take 0) = [] from rfl, PS.stepM_nil] at this
      exact this
    refine ⟨1, [], l[0], Nat.le_refl _, h0, rfl, e1, ?_, hb1'⟩
    have e2 : [] ++ [l[0]] ++ l.drop 1 = l := by
      have := List.drop_eq_getElem_cons (l := l) (i := 0) hl0
      simpa using this.symm
    rw [e2]
    exact ho1'.out
  case round =>
    obtain ⟨k, out, p, hk1, hk, rfl, hme, hown2, hbel⟩ := hrel
    obtain ⟨m1, m2, m3, m4, m5⟩ := ml_at (l := l) (out := out) (p := p) (k := k) (by have := HLn.out; omega)
    have hol : out.length + 1 ≤ k := by have := PS.merge_len l k; rw [hme] at this; simpa using this
    have hpbd : SpBd p ∧ (0 ≤ p.1 ∧ 1 ≤ p.2) ∧ PS.fin p = PS.endOf (l.take k) := by
      obtain ⟨out', p', e, ef, p1, p2, -⟩ := PS.merge_last hr.out (k := k) (by omega) (by have := HLn.out; omega)
      rw [hme] at e
      obtain ⟨rfl, e⟩ := List.append_inj' e rfl
      obtain rfl : p = p' := by simpa using e
      have eb := PS.endOf_bd (PS.right_take hr.out k)
      rw [← ef] at eb
      unfold PS.fin at eb
      exact ⟨⟨by omega, by omega⟩, ⟨p1, p2⟩, ef⟩
    have hLbd : ∀ s ∈ out ++ [p] ++ l.drop k, SpBd s := fun s hs => by
      rcases List.mem_append.1 hs with hs | hs
      · have hmr := (PS.merge_right hr.out (k := k) (by have := HLn.out; omega)).1
        rw [hme] at hmr
        obtain ⟨j, hj, rfl⟩ := List.mem_iff_getElem.1 hs
        have hw := (PS.whole_iff _).1 (PS.right_whole hmr hj)
        exact ⟨by omega, by omega⟩
      · exact HBD.out s (List.mem_of_mem_drop hs)
    obtain ⟨g, cap, rfl, hg, hqc, hcm⟩ := own_form hown2 (by rw [m1]; omega)
    obtain ⟨A', c', eA, hsp, -, -⟩ := hown2.spans hLbd
    obtain ⟨rfl, rfl⟩ : some (⟨g, 0, none⟩ : Addr) = A' ∧ cap = c' := by simpa using eA
    obtain ⟨L, hL⟩ : ∃ L, out ++ [p] ++ l.drop k = L := ⟨_, rfl⟩
    rw [hL] at m1 m2 m3 m4 m5 hsp hown2 hqc hLbd ⊢
    obtain ⟨q, hq⟩ : ∃ q, L.length = q := ⟨_, rfl⟩
    obtain ⟨o, ho⟩ : ∃ o, out.length = o := ⟨_, rfl⟩
    rw [ho] at m1 m2 m3 m4 m5 hol
    rw [hq] at m1 hsp hqc hown2
    rw [hq, ho]
    have HME := Lib.hid hme
    have HLE := Lib.hid hL
    have HO := Lib.hid ho
    have HQ := Lib.hid hq
    have HSP := Lib.hid hsp
    have HOWN := Lib.hid hown2
    replace m4 := Lib.hid m4
    replace m5 := Lib.hid m5
    have hln := HLn.out
    have q1 : q = o + 1 + (n - k) := by omega
    have q2 : q ≤ 1000 := by omega
    have Q1 := Lib.hid q1
    clear m1
    clear hme hL ho hq hown2 eA hLbd hln
    have jo0 : (0 : Int) ≤ (o : Int) := by omega
    have jo1 : (o : Int) ≤ 1000 := by omega
    have jq : (q : Int) ≤ 1000 := by omega
    have joq : (o : Int) < q := by omega
    have jqc : (q : Int) ≤ cap := by omega
    have jcm : (cap : Int) ≤ 9223372036854775807 := by omega
    clear q1
    by_cases hlt : (o : Int) + 1 < q
    · have hkl : k < l.length := by have := HLn.out; have := Q1.out; omega
      obtain ⟨px, py, hp, y0, y1, by1, by2⟩ := HSP.out.row (Below.refl _ _) (k := o) (by omega)
      obtain ⟨x, m, hx, x0, x1, bx1, bx2⟩ := HSP.out.row (Below.refl _ _) (k := o + 1) (by omega)
      have ep : p = (px, py) := by
        have h1 := m2 (by rw [HQ.out]; omega)
        rw [hp (by rw [HQ.out]; omega)] at h1
        exact h1.symm
      have ex : l[k] = (x, m) := by
        have h1 := m3 (by rw [HQ.out]; omega) hkl
        rw [hx (by rw [HQ.out]; omega)] at h1
        exact h1.symm
      have hw := (PS.whole_iff _).1 (PS.right_whole hr.out hkl)
      have st := PS.merge_step hkl
      have sr := PS.right_step hkl
      rw [PS.right_take hr.out, PS.right_take hr.out] at sr
      simp only [Bool.true_and, Bool.true_eq, Bool.and_eq_true, decide_eq_true_eq] at sr
      rw [HME.out, ex] at st
      rw [ex] at hw sr
      rw [← hpbd.2.2] at sr
      obtain ⟨-, ⟨hp0, hp1⟩, -⟩ := hpbd
      subst ep
      have hdr : l.drop k = (x, m) :: l.drop (k + 1) := by rw [List.drop_eq_getElem_cons hkl, ex]
      unfold PS.fin at sr
      dsimp only at hw sr hp0 hp1
      simp only [Nat.zero_add] at y0 y1 x0 x1
      obtain ⟨g1, g2, g3⟩ := hw
      have sr2 := sr.2
      have hdr' := Lib.hid hdr
      clear m2 m3 hp hx ex sr hdr
      have i1 : ((o : Int) + 1).toNat = o + 1 := by omega
      have i2 : (0 : Int) ≤ (o : Int) + 1 := by omega
      have i3 : IntKind.i64.wrap ((o : Int) + 1) = (o : Int) + 1 := by rw [IntKind.wrap_i64]; omega
      by_cases hf : x - px = py
      · rw [PS.stepM_yes (show PS.fin (px, py) = (x, m).1 by unfold PS.fin; dsimp only; omega)] at st
        dsimp only at st
        replace st := Lib.hid st
        have hfq : (x - px == py) = true := by simpa using hf
        have b3 : 0 ≤ py + m := by omega
        have b4 : py + m ≤ 9223372036854775807 := by omega
        have i4 : IntKind.i64.wrap (py + m) = py + m := by rw [IntKind.wrap_i64]; omega
        replace hf := Lib.hid hf
        go_wp2_with fail
        go_quiet (fail)
        go_wp2_with fail
        refine region_name ?_
        intro W hW
        have hgW : g < W.heap.size := by rw [hW]; simpa using hg
        have hBW : Below w.heap.size w W := by rw [hW]; exact (by repeat (first | exact Below.refl _ _ | assumption | refine bel_drew ?_ | refine bel_drewN ?_ _ | refine bel_alloc ?_ _ | refine bel_set ?_ (by first | (dsimp only; omega) | (simp; done) | (simp; omega)) _ | refine bel_trans ?_ (by assumption)))
        have hBr : Below wr.heap.size wr W := by rw [hW]; exact (by repeat (first | exact Below.refl _ _ | assumption | refine bel_drew ?_ | refine bel_drewN ?_ _ | refine bel_alloc ?_ _ | refine bel_set ?_ (by first | (dsimp only; omega) | (simp; done) | (simp; omega)) _ | refine bel_trans ?_ (by assumption)))
        have KS7 : Hid (∀ w', Below W.heap.size W w' → (Below W.heap.size W w' ∧ w'.cell? ⟨g, o * 2, none⟩ = some (.int .i64 px) ∧ w'.cell? ⟨g, o * 2 + 1, none⟩ = some (.int .i64 py) ∧ w'.cell? ⟨g, (o + 1) * 2 + 1, none⟩ = some (.int .i64 m))) := Lib.hid (fun w' hb => by
          have hB2 := bel_trans hBr hb
          have z0 := cell_after hB2 hg y0
          have z1 := cell_after hB2 hg y1
          have z2 := cell_after hB2 hg x1
          exact ⟨hb, z0, z1, z2⟩)
        replace hBW := Lib.hid hBW
        replace hBr := Lib.hid hBr
        clear hW y0 y1 x0 x1
        refine wp_region_held_drew (S := (fun w' => Below W.heap.size W w' ∧ w'.cell? ⟨g, o * 2, none⟩ = some (.int .i64 px) ∧ w'.cell? ⟨g, o * 2 + 1, none⟩ = some (.int .i64 py) ∧ w'.cell? ⟨g, (o + 1) * 2 + 1, none⟩ = some (.int .i64 m))) (by kernel_rfl) ?_ (fun hHeld => ?_)
        focus ((try dsimp only); exact KS7.out _ (by repeat (first | exact Below.refl _ _ | assumption | refine bel_drew ?_ | refine bel_drewN ?_ _ | refine bel_alloc ?_ _ | refine bel_set ?_ (by first | (dsimp only; omega) | (simp; done) | (simp; omega)) _ | refine bel_trans ?_ (by assumption))))
        refine tk_yes 0 (v := ?_) rfl (by kernel_rfl) (by kernel_rfl) (by kernel_rfl) (fun _ _ _ h => h) (by kernel_rfl) (by assumption) ?_ ?_; rotate_left; (focus (intro w hSw; (try dsimp only at hSw); go_simp; (first | done | (with_reducible rfl)))); (try simp only [Act.put, List.setIfInBounds_toArray, List.set_cons_zero, List.set_cons_succ])
        refine tk_yes 1 (v := ?_) rfl (by kernel_rfl) (by kernel_rfl) (by kernel_rfl) (fun _ _ _ h => h) (by kernel_rfl) (by assumption) ?_ ?_; rotate_left; (focus (intro w hSw; (try dsimp only at hSw); go_simp; (first | done | (with_reducible rfl)))); (try simp only [Act.put, List.setIfInBounds_toArray, List.set_cons_zero, List.set_cons_succ])
        refine tk_yes 2 (v := ?_) rfl (by kernel_rfl) (by kernel_rfl) (by kernel_rfl) (fun _ _ _ h => h) (by kernel_rfl) (by assumption) ?_ ?_; rotate_left; (focus (intro w hSw; (try dsimp only at hSw); go_simp; (first | done | (with_reducible rfl)))); (try simp only [Act.put, List.setIfInBounds_toArray, List.set_cons_zero, List.set_cons_succ])
        refine tk_yes 3 (v := ?_) rfl (by kernel_rfl) (by kernel_rfl) (by kernel_rfl) (fun _ _ _ h => h) (by kernel_rfl) (by assumption) ?_ ?_; rotate_left; (focus (intro w hSw; (try dsimp only at hSw); go_simp; (first | done | (with_reducible rfl)))); (try simp only [Act.put, List.setIfInBounds_toArray, List.set_cons_zero, List.set_cons_succ])
        refine tk_yes 4 (v := ?_) rfl (by kernel_rfl) (by kernel_rfl) (by kernel_rfl) (fun _ _ _ h => h) (by kernel_rfl) (by assumption) ?_ ?_; rotate_left; (focus (intro w hSw; (try dsimp only at hSw); go_simp; (first | done | (with_reducible rfl)))); (try simp only [Act.put, List.setIfInBounds_toArray, List.set_cons_zero, List.set_cons_succ])
        refine tk_yes 5 (v := ?_) rfl (by kernel_rfl) (by kernel_rfl) (by kernel_rfl) (fun _ _ _ h => h) (by kernel_rfl) (by assumption) ?_ ?_; rotate_left; (focus (intro w hSw; (try dsimp only at hSw); go_simp; (first | done | (with_reducible rfl)))); (try simp only [Act.put, List.setIfInBounds_toArray, List.set_cons_zero, List.set_cons_succ])
        refine tk_yes 6 (v := ?_) rfl (by kernel_rfl) (by kernel_rfl) (by kernel_rfl) (fun _ _ _ h => h) (by kernel_rfl) (by assumption) ?_ ?_; rotate_left; (focus (intro w hSw; (try dsimp only at hSw); go_simp; (first | done | (with_reducible rfl)))); (try simp only [Act.put, List.setIfInBounds_toArray, List.set_cons_zero, List.set_cons_succ])
        refine tk_yes 7 (v := ?_) rfl (by kernel_rfl) (by kernel_rfl) (by kernel_rfl) (fun _ _ _ h => h) (by kernel_rfl) (by assumption) ?_ ?_; rotate_left; (focus (intro w hSw; (try dsimp only at hSw); go_simp; (first | done | (with_reducible rfl)))); (try simp only [Act.put, List.setIfInBounds_toArray, List.set_cons_zero, List.set_cons_succ])
        refine tk_yes 8 (v := ?_) rfl (by kernel_rfl) (by kernel_rfl) (by kernel_rfl) (fun _ _ _ h => h) (by kernel_rfl) (by assumption) ?_ ?_; rotate_left; (focus (intro w hSw; (try dsimp only at hSw); go_simp; (first | done | (with_reducible rfl)))); (try simp only [Act.put, List.setIfInBounds_toArray, List.set_cons_zero, List.set_cons_succ])
        refine tk_yes 9 (v := ?_) rfl (by kernel_rfl) (by kernel_rfl) (by kernel_rfl) (fun _ _ _ h => h) (by kernel_rfl) (by assumption) ?_ ?_; rotate_left; (focus (intro w hSw; (try dsimp only at hSw); go_simp; (first | done | (with_reducible rfl)))); (try simp only [Act.put, List.setIfInBounds_toArray, List.set_cons_zero, List.set_cons_succ])
        refine tk_yes 10 (v := ?_) rfl (by kernel_rfl) (by kernel_rfl) (by kernel_rfl) (fun _ _ _ h => h) (by kernel_rfl) (by assumption) ?_ ?_; rotate_left; (focus (intro w hSw; (try dsimp only at hSw); go_simp; (first | done | (with_reducible rfl)))); (try simp only [Act.put, List.setIfInBounds_toArray, List.set_cons_zero, List.set_cons_succ])
        refine tk_yes 11 (v := ?_) rfl (by kernel_rfl) (by kernel_rfl) (by kernel_rfl) (fun _ _ _ h => h) (by kernel_rfl) (by assumption) ?_ ?_; rotate_left; (focus (intro w hSw; (try dsimp only at hSw); go_simp; (first | done | (with_reducible rfl)))); (try simp only [Act.put, List.setIfInBounds_toArray, List.set_cons_zero, List.set_cons_succ])
        refine tk_yes 12 (v := ?_) rfl (by kernel_rfl) (by kernel_rfl) (by kernel_rfl) (fun _ _ _ h => h) (by kernel_rfl) (by assumption) ?_ ?_; rotate_left; (focus (intro w hSw; (try dsimp only at hSw); go_simp; (first | done | (with_reducible rfl)))); (try simp only [Act.put, List.setIfInBounds_toArray, List.set_cons_zero, List.set_cons_succ])
        refine tk_yes 13 (v := ?_) rfl (by kernel_rfl) (by kernel_rfl) (by kernel_rfl) (fun _ _ _ h => h) (by kernel_rfl) (by assumption) ?_ ?_; rotate_left; (focus (intro w hSw; (try dsimp only at hSw); go_simp; (first | done | (with_reducible rfl)))); (try simp only [Act.put, List.setIfInBounds_toArray, List.set_cons_zero, List.set_cons_succ])
        refine tk_yes 14 (v := ?_) rfl (by kernel_rfl) (by kernel_rfl) (by kernel_rfl) (fun _ _ _ h => h) (by kernel_rfl) (by assumption) ?_ ?_; rotate_left; (focus (intro w hSw; (try dsimp only at hSw); go_simp; (first | done | (with_reducible rfl)))); (try simp only [Act.put, List.setIfInBounds_toArray, List.set_cons_zero, List.set_cons_succ])
        refine tk_yes 15 (v := ?_) rfl (by kernel_rfl) (by kernel_rfl) (by kernel_rfl) (fun _ _ _ h => h) (by kernel_rfl) (by assumption) ?_ ?_; rotate_left; (focus (intro w hSw; (try dsimp only at hSw); go_simp; (first | done | (with_reducible rfl)))); (try simp only [Act.put, List.setIfInBounds_toArray, List.set_cons_zero, List.set_cons_succ])
        refine tk_yes 16 (v := ?_) rfl (by kernel_rfl) (by kernel_rfl) (by kernel_rfl) (fun _ _ _ h => h) (by kernel_rfl) (by assumption) ?_ ?_; rotate_left; (focus (intro w hSw; (try dsimp only at hSw); go_simp; (first | done | (with_reducible rfl)))); (try simp only [Act.put, List.setIfInBounds_toArray, List.set_cons_zero, List.set_cons_succ])
        refine tk_yes 17 (v := ?_) rfl (by kernel_rfl) (by kernel_rfl) (by kernel_rfl) (fun _ _ _ h => h) (by kernel_rfl) (by assumption) ?_ ?_; rotate_left; (focus (intro w hSw; (try dsimp only at hSw); go_simp; (first | done | (with_reducible rfl)))); (try simp only [Act.put, List.setIfInBounds_toArray, List.set_cons_zero, List.set_cons_succ])
        refine tk_call 18 rfl (by kernel_rfl) (by kernel_rfl) (fun KW hKW => ?_); go_simp; skip; refine hKW.out _ _ ?_ (fun hHeld => ?_); (focus ((try dsimp only); exact KS7.out _ (by repeat (first | exact Below.refl _ _ | assumption | refine bel_drew ?_ | refine bel_drewN ?_ _ | refine bel_alloc ?_ _ | refine bel_set ?_ (by first | (dsimp only; omega) | (simp; done) | (simp; omega)) _ | refine bel_trans ?_ (by assumption))))); clear hKW KW; (try simp only [Act.put, List.setIfInBounds_toArray, List.set_cons_zero, List.set_cons_succ])
        refine tk_call 19 rfl (by kernel_rfl) (by kernel_rfl) (fun KW hKW => ?_); go_simp; skip; refine hKW.out _ _ ?_ (fun hHeld => ?_); (focus ((try dsimp only); exact KS7.out _ (by repeat (first | exact Below.refl _ _ | assumption | refine bel_drew ?_ | refine bel_drewN ?_ _ | refine bel_alloc ?_ _ | refine bel_set ?_ (by first | (dsimp only; omega) | (simp; done) | (simp; omega)) _ | refine bel_trans ?_ (by assumption))))); clear hKW KW; (try simp only [Act.put, List.setIfInBounds_toArray, List.set_cons_zero, List.set_cons_succ])
        refine wpAnyH_done (by kernel_rfl) ?_ _
        go_wp2_with fail
        refine region_name ?_
        intro W2 hW2
        obtain ⟨sb, hsb⟩ : ∃ sb, W.heap.size = sb := ⟨_, rfl⟩
        have B12 : Below W.heap.size W W2 := by rw [hW2]; exact (by repeat (first | exact Below.refl _ _ | assumption | refine bel_drew ?_ | refine bel_drewN ?_ _ | refine bel_alloc ?_ _ | refine bel_set ?_ (by first | (dsimp only; omega) | (simp; done) | (simp; omega)) _ | refine bel_trans ?_ (by assumption)))
        have k0 : W2.cell? ⟨sb, 0, none⟩ = some (.int .i64 px) := by rw [hW2, ← hsb]; simp [go_sem]
        have k1 : W2.cell? ⟨sb, 1, none⟩ = some (.int .i64 (py + m)) := by rw [hW2, ← hsb]; simp [go_sem]
        have ks : sb < W2.heap.size := by rw [hW2, ← hsb]; simp
        rw [hsb]
        have KS8 : Hid (∀ w', Below W2.heap.size W2 w' → (Below W2.heap.size W2 w' ∧ w'.cell? ⟨sb, 0, none⟩ = some (.int .i64 px) ∧ w'.cell? ⟨sb, 1, none⟩ = some (.int .i64 (py + m)))) := Lib.hid (fun w' hb => ⟨hb, cell_after hb ks k0, cell_after hb ks k1⟩)
        have BrW2 : Hid (Below wr.heap.size wr W2) := Lib.hid (bel_trans hBr.out B12)
        have BW2 : Hid (Below w.heap.size w W2) := Lib.hid (bel_trans hBW.out B12)
        have HSZ2 : Hid (w.heap.size ≤ W2.heap.size) := Lib.hid BW2.out.size
        have KT : Hid (∀ W', Below wr.heap.size wr W' → SrcS 2 W' (some ⟨g, 0, none⟩) o (cellsS out)) := Lib.hid (fun W' hW' => by
          have := ((HSP.out.keep hW').take (k := o) (by omega)).src'
          rwa [m4.out] at this)
        have i5 : (o : Int) + 2 ≤ q := by omega
        have i6 : ((o : Int) + 2).toNat = o + 2 := by omega
        have i7 : (0 : Int) ≤ (o : Int) + 2 := by omega
        have i8 : IntKind.i64.wrap ((o : Int) + 2) = (o : Int) + 2 := by rw [IntKind.wrap_i64]; omega
        have i9 : (o : Int) ≤ cap := by omega
        have i10 : (o : Int) + 2 ≤ cap := by omega
        have i11 : o ≤ 1000 := by omega
        have HOWN6 : Hid (OwnS W2.heap.size ((W2.alloc (.cells #[.int .i64 px, .int .i64 (py + m)] 37)).alloc (.cells #[] 37)) (.slice (some ⟨W2.heap.size + 1, 0, none⟩) 0 0) []) := Lib.hid (by
          have hh : OwnS (W2.alloc (.cells #[.int .i64 px, .int .i64 (py + m)] 37)).heap.size _ _ [] := own_emptyS 2 (W2.alloc (.cells #[.int .i64 px, .int .i64 (py + m)] 37)) 37
          rw [World.size_alloc] at hh
          exact OwnS.mono hh (by omega))
        clear hW2 hsb B12 k0 k1 ks hHeld
        by_cases hcs : cap = o + 2
        · subst hcs
          have i12 : (q : Int) ≤ (o : Int) + 2 := by omega
          have i13 : q - (o + 2) = 0 := by omega
          have KR : Hid (∀ W', Below wr.heap.size wr W' → SrcS 2 W' (some ⟨g, 0, none⟩) 0 (cellsS (l.drop (k + 1)))) := Lib.hid (fun W' hW' => by
            rw [List.drop_of_length_le (by have := HLn.out; have := Q1.out; omega)]; exact src0)
          have i14 : (o : Int) + 2 ≤ (o : Int) + 2 := by omega
          have i15 : (o : Int) ≤ (o : Int) + 2 := by omega
          have i16 : q = o + 2 := by omega
          subst i16
          refine wp_region_held_drew (S := (fun w' => Below W2.heap.size W2 w' ∧ w'.cell? ⟨sb, 0, none⟩ = some (.int .i64 px) ∧ w'.cell? ⟨sb, 1, none⟩ = some (.int .i64 (py + m)))) (by kernel_rfl) ?_ (fun hHeld => ?_)
          focus ((try dsimp only); exact KS8.out _ (by first | exact hb10' | exact hb9' | exact hb8' | exact (by repeat (first | exact Below.refl _ _ | assumption | refine bel_drew ?_ | refine bel_drewN ?_ _ | refine bel_alloc ?_ _ | refine bel_set ?_ (by first | (dsimp only; omega) | (simp; done) | (simp; omega)) _ | refine bel_trans ?_ (by assumption)))))
          refine tk_yes 1 (v := ?_) rfl (by kernel_rfl) (by kernel_rfl) (by kernel_rfl) (fun _ _ _ h => h) (by kernel_rfl) (by assumption) ?_ ?_; rotate_left; (focus (intro w hSw; (try dsimp only at hSw); go_simp; (first | done | (with_reducible rfl)))); (try simp only [Act.put, List.setIfInBounds_toArray, List.set_cons_zero, List.set_cons_succ])
          refine tk_yes 2 (v := ?_) rfl (by kernel_rfl) (by kernel_rfl) (by kernel_rfl) (fun _ _ _ h => h) (by kernel_rfl) (by assumption) ?_ ?_; rotate_left; (focus (intro w hSw; (try dsimp only at hSw); go_simp; (first | done | (with_reducible rfl)))); (try simp only [Act.put, List.setIfInBounds_toArray, List.set_cons_zero, List.set_cons_succ])
          refine tk_yes 3 (v := ?_) rfl (by kernel_rfl) (by kernel_rfl) (by kernel_rfl) (fun _ _ _ h => h) (by kernel_rfl) (by assumption) ?_ ?_; rotate_left; (focus (intro w hSw; (try dsimp only at hSw); go_simp; (first | done | (with_reducible rfl)))); (try simp only [Act.put, List.setIfInBounds_toArray, List.set_cons_zero, List.set_cons_succ])
          refine tk_yes 5 (v := ?_) rfl (by kernel_rfl) (by kernel_rfl) (by kernel_rfl) (fun _ _ _ h => h) (by kernel_rfl) (by assumption) ?_ ?_; rotate_left; (focus (intro w hSw; (try dsimp only at hSw); go_simp; (first | done | (with_reducible rfl)))); (try simp only [Act.put, List.setIfInBounds_toArray, List.set_cons_zero, List.set_cons_succ])
          refine tk_yes 8 (v := ?_) rfl (by kernel_rfl) (by kernel_rfl) (by kernel_rfl) (fun _ _ _ h => h) (by kernel_rfl) (by assumption) ?_ ?_; rotate_left; (focus (intro w hSw; (try dsimp only at hSw); go_simp; (first | done | (with_reducible rfl)))); (try simp only [Act.put, List.setIfInBounds_toArray, List.set_cons_zero, List.set_cons_succ])
          refine tk_yes 9 (v := ?_) rfl (by kernel_rfl) (by kernel_rfl) (by kernel_rfl) (fun _ _ _ h => h) (by kernel_rfl) (by assumption) ?_ ?_; rotate_left; (focus (intro w hSw; (try dsimp only at hSw); go_simp; (first | done | (with_reducible rfl)))); (try simp only [Act.put, List.setIfInBounds_toArray, List.set_cons_zero, List.set_cons_succ])
          refine tk_yes 10 (v := ?_) rfl (by kernel_rfl) (by kernel_rfl) (by kernel_rfl) (fun _ _ _ h => h) (by kernel_rfl) (by assumption) ?_ ?_; rotate_left; (focus (intro w hSw; (try dsimp only at hSw); go_simp; (first | done | (with_reducible rfl)))); (try simp only [Act.put, List.setIfInBounds_toArray, List.set_cons_zero, List.set_cons_succ])
          refine tk_yes 11 (v := ?_) rfl (by kernel_rfl) (by kernel_rfl) (by kernel_rfl) (fun _ _ _ h => h) (by kernel_rfl) (by assumption) ?_ ?_; rotate_left; (focus (intro w hSw; (try dsimp only at hSw); go_simp; (first | done | (with_reducible rfl)))); (try simp only [Act.put, List.setIfInBounds_toArray, List.set_cons_zero, List.set_cons_succ])
          refine tk_two 0 6 rfl rfl (by kernel_rfl) (by kernel_rfl) (by kernel_rfl) (fun KW hKW => ?_) (fun KW hKW => ?_)
          · go_simp; skip; refine hKW.out _ _ ?_ (fun hHeld => ?_); (focus ((try dsimp only); exact KS8.out _ (by first | exact hb10' | exact hb9' | exact hb8' | exact (by repeat (first | exact Below.refl _ _ | assumption | refine bel_drew ?_ | refine bel_drewN ?_ _ | refine bel_alloc ?_ _ | refine bel_set ?_ (by first | (dsimp only; omega) | (simp; done) | (simp; omega)) _ | refine bel_trans ?_ (by assumption)))))); clear hKW KW; (try simp only [Act.put, List.setIfInBounds_toArray, List.set_cons_zero, List.set_cons_succ])
            refine tk_two 4 6 rfl rfl (by kernel_rfl) (by kernel_rfl) (by kernel_rfl) (fun KW hKW => ?_) (fun KW hKW => ?_)
            · refine app_oper2 (.tmp 54) (.tmp 57) rfl W2.heap.size (.slice (some ⟨W2.heap.size, 0, none⟩) 0 0) [] rfl (OwnS.keep (B := W2.heap.size) (w := W2.alloc (.cells #[] 37)) (l := []) (own_emptyS 2 W2 _) (by repeat (first | exact Below.refl _ _ | assumption | refine bel_drew ?_ | refine bel_drewN ?_ _ | refine bel_alloc ?_ _ | refine bel_set ?_ (by first | (dsimp only; omega) | (simp; done) | (simp; omega)) _ | refine bel_trans ?_ (by assumption)))) (some ⟨g, 0, none⟩) o _ out rfl (KT.out _ (bel_trans BrW2.out hHeld.1)) (by simp; omega) hHeld.1.size ?_; intro v8 w8 ho8 hb8 hg8; replace ho8 := Lib.hid ho8; have hb8' := bel_trans' hHeld.1 hb8 (Nat.le_refl _); refine hKW.out _ _ ?_ (fun hHeld => ?_); (focus ((try dsimp only); exact KS8.out _ (by first | exact hb10' | exact hb9' | exact hb8' | exact (by repeat (first | exact Below.refl _ _ | assumption | refine bel_drew ?_ | refine bel_drewN ?_ _ | refine bel_alloc ?_ _ | refine bel_set ?_ (by first | (dsimp only; omega) | (simp; done) | (simp; omega)) _ | refine bel_trans ?_ (by assumption)))))); clear hKW KW; (try simp only [Act.put, List.setIfInBounds_toArray, List.set_cons_zero, List.set_cons_succ])
              refine tk_call 6 rfl (by kernel_rfl) (by kernel_rfl) (fun KW hKW => ?_); go_simp; skip; refine hKW.out _ _ ?_ (fun hHeld => ?_); (focus ((try dsimp only); exact KS8.out _ (by first | exact hb10' | exact hb9' | exact hb8' | exact (by repeat (first | exact Below.refl _ _ | assumption | refine bel_drew ?_ | refine bel_drewN ?_ _ | refine bel_alloc ?_ _ | refine bel_set ?_ (by first | (dsimp only; omega) | (simp; done) | (simp; omega)) _ | refine bel_trans ?_ (by assumption)))))); clear hKW KW; (try simp only [Act.put, List.setIfInBounds_toArray, List.set_cons_zero, List.set_cons_succ])
              refine tk_call 7 rfl (by kernel_rfl) (by kernel_rfl) (fun KW hKW => ?_); refine app_oper2 (.tmp 58) (.tmp 60) rfl W2.heap.size v8 ([] ++ out) rfl (OwnS.keep ho8.out (by repeat (first | exact Below.refl _ _ | assumption | refine bel_drew ?_ | refine bel_drewN ?_ _ | refine bel_alloc ?_ _ | refine bel_set ?_ (by first | (dsimp only; omega) | (simp; done) | (simp; omega)) _ | refine bel_trans ?_ (by assumption)))) (some ⟨_, 0, none⟩) 1 1 [(px, py + m)] rfl (src_one (by simp [go_sem]) (by simp [go_sem])) (by simp; rw [HO.out]; omega) hHeld.1.size ?_; intro v9 w9 ho9 hb9 hg9; replace ho9 := Lib.hid ho9; have hb9' := bel_trans' hHeld.1 hb9 (Nat.le_refl _); refine hKW.out _ _ ?_ (fun hHeld => ?_); (focus ((try dsimp only); exact KS8.out _ (by first | exact hb10' | exact hb9' | exact hb8' | exact (by repeat (first | exact Below.refl _ _ | assumption | refine bel_drew ?_ | refine bel_drewN ?_ _ | refine bel_alloc ?_ _ | refine bel_set ?_ (by first | (dsimp only; omega) | (simp; done) | (simp; omega)) _ | refine bel_trans ?_ (by assumption)))))); clear hKW KW; (try simp only [Act.put, List.setIfInBounds_toArray, List.set_cons_zero, List.set_cons_succ])
              refine tk_call 12 rfl (by kernel_rfl) (by kernel_rfl) (fun KW hKW => ?_); refine app_oper2 (.tmp 61) (.tmp 65) rfl W2.heap.size v9 ([] ++ out ++ [(px, py + m)]) rfl ho9.out (some ⟨g, 0, none⟩) 0 _ (l.drop (k + 1)) rfl (KR.out _ (bel_trans BrW2.out hHeld.1)) (by simp; rw [HO.out]; omega) hHeld.1.size ?_; intro v10 w10 ho10 hb10 hg10; replace ho10 := Lib.hid ho10; have hb10' := bel_trans' hHeld.1 hb10 (Nat.le_refl _); refine hKW.out _ _ ?_ (fun hHeld => ?_); (focus ((try dsimp only); exact KS8.out _ (by first | exact hb10' | exact hb9' | exact hb8' | exact (by repeat (first | exact Below.refl _ _ | assumption | refine bel_drew ?_ | refine bel_drewN ?_ _ | refine bel_alloc ?_ _ | refine bel_set ?_ (by first | (dsimp only; omega) | (simp; done) | (simp; omega)) _ | refine bel_trans ?_ (by assumption)))))); clear hKW KW; (try simp only [Act.put, List.setIfInBounds_toArray, List.set_cons_zero, List.set_cons_succ])
              refine tk_yes 13 (v := ?_) rfl (by kernel_rfl) (by kernel_rfl) (by kernel_rfl) (fun _ _ _ h => h) (by kernel_rfl) (by assumption) ?_ ?_; rotate_left; (focus (intro w hSw; (try dsimp only at hSw); go_simp; (first | done | (with_reducible rfl)))); (try simp only [Act.put, List.setIfInBounds_toArray, List.set_cons_zero, List.set_cons_succ])
              refine wpAnyH_done (by kernel_rfl) ?_ _
              go_wp2_with fail
              go_roundw
              case rel => exact ⟨k + 1, out, (px, py + m), by omega, by have := HLn.out; omega, by rw [HO.out], st.out, by have := ho10.out.mono HSZ2.out; simpa using this, bel_trans' BW2.out hb10' HSZ2.out⟩
              case measure =>
                have e := own_lenV ho10.out
                have e2 := HO.out
                have e3 := Q1.out
                have e4 := HLn.out
                simp only [List.length_append, List.length_cons, List.length_nil, List.length_drop] at e
                simp [intOf, lenV_slice]
                omega
            · go_simp; skip; refine hKW.out _ _ ?_ (fun hHeld => ?_); (focus ((try dsimp only); exact KS8.out _ (by first | exact hb10' | exact hb9' | exact hb8' | exact (by repeat (first | exact Below.refl _ _ | assumption | refine bel_drew ?_ | refine bel_drewN ?_ _ | refine bel_alloc ?_ _ | refine bel_set ?_ (by first | (dsimp only; omega) | (simp; done) | (simp; omega)) _ | refine bel_trans ?_ (by assumption)))))); clear hKW KW; (try simp only [Act.put, List.setIfInBounds_toArray, List.set_cons_zero, List.set_cons_succ])
              refine tk_call 4 rfl (by kernel_rfl) (by kernel_rfl) (fun KW hKW => ?_); refine app_oper2 (.tmp 54) (.tmp 57) rfl W2.heap.size (.slice (some ⟨W2.heap.size, 0, none⟩) 0 0) [] rfl (OwnS.keep (B := W2.heap.size) (w := W2.alloc (.cells #[] 37)) (l := []) (own_emptyS 2 W2 _) (by repeat (first | exact Below.refl _ _ | assumption | refine bel_drew ?_ | refine bel_drewN ?_ _ | refine bel_alloc ?_ _ | refine bel_set ?_ (by first | (dsimp only; omega) | (simp; done) | (simp; omega)) _ | refine bel_trans ?_ (by assumption)))) (some ⟨g, 0, none⟩) o _ out rfl (KT.out _ (bel_trans BrW2.out hHeld.1)) (by simp; omega) hHeld.1.size ?_; intro v8 w8 ho8 hb8 hg8; replace ho8 := Lib.hid ho8; have hb8' := bel_trans' hHeld.1 hb8 (Nat.le_refl _); refine hKW.out _ _ ?_ (fun hHeld => ?_); (focus ((try dsimp only); exact KS8.out _ (by first | exact hb10' | exact hb9' | exact hb8' | exact (by repeat (first | exact Below.refl _ _ | assumption | refine bel_drew ?_ | refine bel_drewN ?_ _ | refine bel_alloc ?_ _ | refine bel_set ?_ (by first | (dsimp only; omega) | (simp; done) | (simp; omega)) _ | refine bel_trans ?_ (by assumption)))))); clear hKW KW; (try simp only [Act.put, List.setIfInBounds_toArray, List.set_cons_zero, List.set_cons_succ])
              refine tk_call 7 rfl (by kernel_rfl) (by kernel_rfl) (fun KW hKW => ?_); refine app_oper2 (.tmp 58) (.tmp 60) rfl W2.heap.size v8 ([] ++ out) rfl ho8.out (some ⟨_, 0, none⟩) 1 1 [(px, py + m)] rfl (src_one (World.grownBy.cell hg8 (by simp [go_sem]) (by simp [Value.ownBlock])) (World.grownBy.cell hg8 (by simp [go_sem]) (by simp [Value.ownBlock]))) (by simp; rw [HO.out]; omega) hHeld.1.size ?_; intro v9 w9 ho9 hb9 hg9; replace ho9 := Lib.hid ho9; have hb9' := bel_trans' hHeld.1 hb9 (Nat.le_refl _); refine hKW.out _ _ ?_ (fun hHeld => ?_); (focus ((try dsimp only); exact KS8.out _ (by first | exact hb10' | exact hb9' | exact hb8' | exact (by repeat (first | exact Below.refl _ _ | assumption | refine bel_drew ?_ | refine bel_drewN ?_ _ | refine bel_alloc ?_ _ | refine bel_set ?_ (by first | (dsimp only; omega) | (simp; done) | (simp; omega)) _ | refine bel_trans ?_ (by assumption)))))); clear hKW KW; (try simp only [Act.put, List.setIfInBounds_toArray, List.set_cons_zero, List.set_cons_succ])
              refine tk_call 12 rfl (by kernel_rfl) (by kernel_rfl) (fun KW hKW => ?_); refine app_oper2 (.tmp 61) (.tmp 65) rfl W2.heap.size v9 ([] ++ out ++ [(px, py + m)]) rfl ho9.out (some ⟨g, 0, none⟩) 0 _ (l.drop (k + 1)) rfl (KR.out _ (bel_trans BrW2.out hHeld.1)) (by simp; rw [HO.out]; omega) hHeld.1.size ?_; intro v10 w10 ho10 hb10 hg10; replace ho10 := Lib.hid ho10; have hb10' := bel_trans' hHeld.1 hb10 (Nat.le_refl _); refine hKW.out _ _ ?_ (fun hHeld => ?_); (focus ((try dsimp only); exact KS8.out _ (by first | exact hb10' | exact hb9' | exact hb8' | exact (by repeat (first | exact Below.refl _ _ | assumption | refine bel_drew ?_ | refine bel_drewN ?_ _ | refine bel_alloc ?_ _ | refine bel_set ?_ (by first | (dsimp only; omega) | (simp; done) | (simp; omega)) _ | refine bel_trans ?_ (by assumption)))))); clear hKW KW; (try simp only [Act.put, List.setIfInBounds_toArray, List.set_cons_zero, List.set_cons_succ])
              refine tk_yes 13 (v := ?_) rfl (by kernel_rfl) (by kernel_rfl) (by kernel_rfl) (fun _ _ _ h => h) (by kernel_rfl) (by assumption) ?_ ?_; rotate_left; (focus (intro w hSw; (try dsimp only at hSw); go_simp; (first | done | (with_reducible rfl)))); (try simp only [Act.put, List.setIfInBounds_toArray, List.set_cons_zero, List.set_cons_succ])
              refine wpAnyH_done (by kernel_rfl) ?_ _
              go_wp2_with fail
              go_roundw
              case rel => exact ⟨k + 1, out, (px, py + m), by omega, by have := HLn.out; omega, by rw [HO.out], st.out, by have := ho10.out.mono HSZ2.out; simpa using this, bel_trans' BW2.out hb10' HSZ2.out⟩
              case measure =>
                have e := own_lenV ho10.out
                have e2 := HO.out
                have e3 := Q1.out
                have e4 := HLn.out
                simp only [List.length_append, List.length_cons, List.length_nil, List.length_drop] at e
                simp [intOf, lenV_slice]
                omega
          · go_simp; skip; refine hKW.out _ _ ?_ (fun hHeld => ?_); (focus ((try dsimp only); exact KS8.out _ (by first | exact hb10' | exact hb9' | exact hb8' | exact (by repeat (first | exact Below.refl _ _ | assumption | refine bel_drew ?_ | refine bel_drewN ?_ _ | refine bel_alloc ?_ _ | refine bel_set ?_ (by first | (dsimp only; omega) | (simp; done) | (simp; omega)) _ | refine bel_trans ?_ (by assumption)))))); clear hKW KW; (try simp only [Act.put, List.setIfInBounds_toArray, List.set_cons_zero, List.set_cons_succ])
            refine tk_call 0 rfl (by kernel_rfl) (by kernel_rfl) (fun KW hKW => ?_); go_simp; skip; refine hKW.out _ _ ?_ (fun hHeld => ?_); (focus ((try dsimp only); exact KS8.out _ (by first | exact hb10' | exact hb9' | exact hb8' | exact (by repeat (first | exact Below.refl _ _ | assumption | refine bel_drew ?_ | refine bel_drewN ?_ _ | refine bel_alloc ?_ _ | refine bel_set ?_ (by first | (dsimp only; omega) | (simp; done) | (simp; omega)) _ | refine bel_trans ?_ (by assumption)))))); clear hKW KW; (try simp only [Act.put, List.setIfInBounds_toArray, List.set_cons_zero, List.set_cons_succ])
            refine tk_call 4 rfl (by kernel_rfl) (by kernel_rfl) (fun KW hKW => ?_); refine app_oper2 (.tmp 54) (.tmp 57) rfl W2.heap.size (.slice (some ⟨W2.heap.size + 1, 0, none⟩) 0 0) [] rfl (OwnS.keep HOWN6.out (by repeat (first | exact Below.refl _ _ | assumption | refine bel_drew ?_ | refine bel_drewN ?_ _ | refine bel_alloc ?_ _ | refine bel_set ?_ (by first | (dsimp only; omega) | (simp; done) | (simp; omega)) _ | refine bel_trans ?_ (by assumption)))) (some ⟨g, 0, none⟩) o _ out rfl (KT.out _ (bel_trans BrW2.out hHeld.1)) (by simp; omega) hHeld.1.size ?_; intro v8 w8 ho8 hb8 hg8; replace ho8 := Lib.hid ho8; have hb8' := bel_trans' hHeld.1 hb8 (Nat.le_refl _); refine hKW.out _ _ ?_ (fun hHeld => ?_); (focus ((try dsimp only); exact KS8.out _ (by first | exact hb10' | exact hb9' | exact hb8' | exact (by repeat (first | exact Below.refl _ _ | assumption | refine bel_drew ?_ | refine bel_drewN ?_ _ | refine bel_alloc ?_ _ | refine bel_set ?_ (by first | (dsimp only; omega) | (simp; done) | (simp; omega)) _ | refine bel_trans ?_ (by assumption)))))); clear hKW KW; (try simp only [Act.put, List.setIfInBounds_toArray, List.set_cons_zero, List.set_cons_succ])
            refine tk_call 7 rfl (by kernel_rfl) (by kernel_rfl) (fun KW hKW => ?_); refine app_oper2 (.tmp 58) (.tmp 60) rfl W2.heap.size v8 ([] ++ out) rfl ho8.out (some ⟨_, 0, none⟩) 1 1 [(px, py + m)] rfl (src_one (World.grownBy.cell hg8 (by simp [go_sem]) (by simp [Value.ownBlock])) (World.grownBy.cell hg8 (by simp [go_sem]) (by simp [Value.ownBlock]))) (by simp; rw [HO.out]; omega) hHeld.1.size ?_; intro v9 w9 ho9 hb9 hg9; replace ho9 := Lib.hid ho9; have hb9' := bel_trans' hHeld.1 hb9 (Nat.le_refl _); refine hKW.out _ _ ?_ (fun hHeld => ?_); (focus ((try dsimp only); exact KS8.out _ (by first | exact hb10' | exact hb9' | exact hb8' | exact (by repeat (first | exact Below.refl _ _ | assumption | refine bel_drew ?_ | refine bel_drewN ?_ _ | refine bel_alloc ?_ _ | refine bel_set ?_ (by first | (dsimp only; omega) | (simp; done) | (simp; omega)) _ | refine bel_trans ?_ (by assumption)))))); clear hKW KW; (try simp only [Act.put, List.setIfInBounds_toArray, List.set_cons_zero, List.set_cons_succ])
            refine tk_call 12 rfl (by kernel_rfl) (by kernel_rfl) (fun KW hKW => ?_); refine app_oper2 (.tmp 61) (.tmp 65) rfl W2.heap.size v9 ([] ++ out ++ [(px, py + m)]) rfl ho9.out (some ⟨g, 0, none⟩) 0 _ (l.drop (k + 1)) rfl (KR.out _ (bel_trans BrW2.out hHeld.1)) (by simp; rw [HO.out]; omega) hHeld.1.size ?_; intro v10 w10 ho10 hb10 hg10; replace ho10 := Lib.hid ho10; have hb10' := bel_trans' hHeld.1 hb10 (Nat.le_refl _); refine hKW.out _ _ ?_ (fun hHeld => ?_); (focus ((try dsimp only); exact KS8.out _ (by first | exact hb10' | exact hb9' | exact hb8' | exact (by repeat (first | exact Below.refl _ _ | assumption | refine bel_drew ?_ | refine bel_drewN ?_ _ | refine bel_alloc ?_ _ | refine bel_set ?_ (by first | (dsimp only; omega) | (simp; done) | (simp; omega)) _ | refine bel_trans ?_ (by assumption)))))); clear hKW KW; (try simp only [Act.put, List.setIfInBounds_toArray, List.set_cons_zero, List.set_cons_succ])
            refine tk_yes 13 (v := ?_) rfl (by kernel_rfl) (by kernel_rfl) (by kernel_rfl) (fun _ _ _ h => h) (by kernel_rfl) (by assumption) ?_ ?_; rotate_left; (focus (intro w hSw; (try dsimp only at hSw); go_simp; (first | done | (with_reducible rfl)))); (try simp only [Act.put, List.setIfInBounds_toArray, List.set_cons_zero, List.set_cons_succ])
            refine wpAnyH_done (by kernel_rfl) ?_ _
            go_wp2_with fail
            go_roundw
            case rel => exact ⟨k + 1, out, (px, py + m), by omega, by have := HLn.out; omega, by rw [HO.out], st.out, by have := ho10.out.mono HSZ2.out; simpa using this, bel_trans' BW2.out hb10' HSZ2.out⟩
            case measure =>
              have e := own_lenV ho10.out
              have e2 := HO.out
              have e3 := Q1.out
              have e4 := HLn.out
              simp only [List.length_append, List.length_cons, List.length_nil, List.length_drop] at e
              simp [intOf, lenV_slice]
              omega
        · have KR : Hid (∀ W', Below wr.heap.size wr W' → SrcS 2 W' (some ⟨g, (o + 2) * 2, none⟩) (q - (o + 2)) (cellsS (l.drop (k + 1)))) := Lib.hid (fun W' hW' => by
            have := ((HSP.out.keep hW').drop (k := o + 2) (by omega)).src'
            rw [m5.out] at this
            simpa using this)
          refine wp_region_held_drew (S := (fun w' => Below W2.heap.size W2 w' ∧ w'.cell? ⟨sb, 0, none⟩ = some (.int .i64 px) ∧ w'.cell? ⟨sb, 1, none⟩ = some (.int .i64 (py + m)))) (by kernel_rfl) ?_ (fun hHeld => ?_)
          focus ((try dsimp only); exact KS8.out _ (by first | exact hb10' | exact hb9' | exact hb8' | exact (by repeat (first | exact Below.refl _ _ | assumption | refine bel_drew ?_ | refine bel_drewN ?_ _ | refine bel_alloc ?_ _ | refine bel_set ?_ (by first | (dsimp only; omega) | (simp; done) | (simp; omega)) _ | refine bel_trans ?_ (by assumption)))))
          refine tk_yes 1 (v := ?_) rfl (by kernel_rfl) (by kernel_rfl) (by kernel_rfl) (fun _ _ _ h => h) (by kernel_rfl) (by assumption) ?_ ?_; rotate_left; (focus (intro w hSw; (try dsimp only at hSw); go_simp; (first | done | (with_reducible rfl)))); (try simp only [Act.put, List.setIfInBounds_toArray, List.set_cons_zero, List.set_cons_succ])
          refine tk_yes 2 (v := ?_) rfl (by kernel_rfl) (by kernel_rfl) (by kernel_rfl) (fun _ _ _ h => h) (by kernel_rfl) (by assumption) ?_ ?_; rotate_left; (focus (intro w hSw; (try dsimp only at hSw); go_simp; (first | done | (with_reducible rfl)))); (try simp only [Act.put, List.setIfInBounds_toArray, List.set_cons_zero, List.set_cons_succ])
          refine tk_yes 3 (v := ?_) rfl (by kernel_rfl) (by kernel_rfl) (by kernel_rfl) (fun _ _ _ h => h) (by kernel_rfl) (by assumption) ?_ ?_; rotate_left; (focus (intro w hSw; (try dsimp only at hSw); go_simp; (first | done | (with_reducible rfl)))); (try simp only [Act.put, List.setIfInBounds_toArray, List.set_cons_zero, List.set_cons_succ])
          refine tk_yes 5 (v := ?_) rfl (by kernel_rfl) (by kernel_rfl) (by kernel_rfl) (fun _ _ _ h => h) (by kernel_rfl) (by assumption) ?_ ?_; rotate_left; (focus (intro w hSw; (try dsimp only at hSw); go_simp; (first | done | (with_reducible rfl)))); (try simp only [Act.put, List.setIfInBounds_toArray, List.set_cons_zero, List.set_cons_succ])
          refine tk_yes 8 (v := ?_) rfl (by kernel_rfl) (by kernel_rfl) (by kernel_rfl) (fun _ _ _ h => h) (by kernel_rfl) (by assumption) ?_ ?_; rotate_left; (focus (intro w hSw; (try dsimp only at hSw); go_simp; (first | done | (with_reducible rfl)))); (try simp only [Act.put, List.setIfInBounds_toArray, List.set_cons_zero, List.set_cons_succ])
          refine tk_yes 9 (v := ?_) rfl (by kernel_rfl) (by kernel_rfl) (by kernel_rfl) (fun _ _ _ h => h) (by kernel_rfl) (by assumption) ?_ ?_; rotate_left; (focus (intro w hSw; (try dsimp only at hSw); go_simp; (first | done | (with_reducible rfl)))); (try simp only [Act.put, List.setIfInBounds_toArray, List.set_cons_zero, List.set_cons_succ])
          refine tk_yes 10 (v := ?_) rfl (by kernel_rfl) (by kernel_rfl) (by kernel_rfl) (fun _ _ _ h => h) (by kernel_rfl) (by assumption) ?_ ?_; rotate_left; (focus (intro w hSw; (try dsimp only at hSw); go_simp; (first | done | (with_reducible rfl)))); (try simp only [Act.put, List.setIfInBounds_toArray, List.set_cons_zero, List.set_cons_succ])
          refine tk_yes 11 (v := ?_) rfl (by kernel_rfl) (by kernel_rfl) (by kernel_rfl) (fun _ _ _ h => h) (by kernel_rfl) (by assumption) ?_ ?_; rotate_left; (focus (intro w hSw; (try dsimp only at hSw); go_simp; (first | done | (with_reducible rfl)))); (try simp only [Act.put, List.setIfInBounds_toArray, List.set_cons_zero, List.set_cons_succ])
          refine tk_two 0 6 rfl rfl (by kernel_rfl) (by kernel_rfl) (by kernel_rfl) (fun KW hKW => ?_) (fun KW hKW => ?_)
          · go_simp; skip; refine hKW.out _ _ ?_ (fun hHeld => ?_); (focus ((try dsimp only); exact KS8.out _ (by first | exact hb10' | exact hb9' | exact hb8' | exact (by repeat (first | exact Below.refl _ _ | assumption | refine bel_drew ?_ | refine bel_drewN ?_ _ | refine bel_alloc ?_ _ | refine bel_set ?_ (by first | (dsimp only; omega) | (simp; done) | (simp; omega)) _ | refine bel_trans ?_ (by assumption)))))); clear hKW KW; (try simp only [Act.put, List.setIfInBounds_toArray, List.set_cons_zero, List.set_cons_succ])
            refine tk_two 4 6 rfl rfl (by kernel_rfl) (by kernel_rfl) (by kernel_rfl) (fun KW hKW => ?_) (fun KW hKW => ?_)
            · refine app_oper2 (.tmp 54) (.tmp 57) rfl W2.heap.size (.slice (some ⟨W2.heap.size, 0, none⟩) 0 0) [] rfl (OwnS.keep (B := W2.heap.size) (w := W2.alloc (.cells #[] 37)) (l := []) (own_emptyS 2 W2 _) (by repeat (first | exact Below.refl _ _ | assumption | refine bel_drew ?_ | refine bel_drewN ?_ _ | refine bel_alloc ?_ _ | refine bel_set ?_ (by first | (dsimp only; omega) | (simp; done) | (simp; omega)) _ | refine bel_trans ?_ (by assumption)))) (some ⟨g, 0, none⟩) o _ out rfl (KT.out _ (bel_trans BrW2.out hHeld.1)) (by simp; omega) hHeld.1.size ?_; intro v8 w8 ho8 hb8 hg8; replace ho8 := Lib.hid ho8; have hb8' := bel_trans' hHeld.1 hb8 (Nat.le_refl _); refine hKW.out _ _ ?_ (fun hHeld => ?_); (focus ((try dsimp only); exact KS8.out _ (by first | exact hb10' | exact hb9' | exact hb8' | exact (by repeat (first | exact Below.refl _ _ | assumption | refine bel_drew ?_ | refine bel_drewN ?_ _ | refine bel_alloc ?_ _ | refine bel_set ?_ (by first | (dsimp only; omega) | (simp; done) | (simp; omega)) _ | refine bel_trans ?_ (by assumption)))))); clear hKW KW; (try simp only [Act.put, List.setIfInBounds_toArray, List.set_cons_zero, List.set_cons_succ])
              refine tk_call 6 rfl (by kernel_rfl) (by kernel_rfl) (fun KW hKW => ?_); go_simp; skip; refine hKW.out _ _ ?_ (fun hHeld => ?_); (focus ((try dsimp only); exact KS8.out _ (by first | exact hb10' | exact hb9' | exact hb8' | exact (by repeat (first | exact Below.refl _ _ | assumption | refine bel_drew ?_ | refine bel_drewN ?_ _ | refine bel_alloc ?_ _ | refine bel_set ?_ (by first | (dsimp only; omega) | (simp; done) | (simp; omega)) _ | refine bel_trans ?_ (by assumption)))))); clear hKW KW; (try simp only [Act.put, List.setIfInBounds_toArray, List.set_cons_zero, List.set_cons_succ])
              refine tk_call 7 rfl (by kernel_rfl) (by kernel_rfl) (fun KW hKW => ?_); refine app_oper2 (.tmp 58) (.tmp 60) rfl W2.heap.size v8 ([] ++ out) rfl (OwnS.keep ho8.out (by repeat (first | exact Below.refl _ _ | assumption | refine bel_drew ?_ | refine bel_drewN ?_ _ | refine bel_alloc ?_ _ | refine bel_set ?_ (by first | (dsimp only; omega) | (simp; done) | (simp; omega)) _ | refine bel_trans ?_ (by assumption)))) (some ⟨_, 0, none⟩) 1 1 [(px, py + m)] rfl (src_one (by simp [go_sem]) (by simp [go_sem])) (by simp; rw [HO.out]; omega) hHeld.1.size ?_; intro v9 w9 ho9 hb9 hg9; replace ho9 := Lib.hid ho9; have hb9' := bel_trans' hHeld.1 hb9 (Nat.le_refl _); refine hKW.out _ _ ?_ (fun hHeld => ?_); (focus ((try dsimp only); exact KS8.out _ (by first | exact hb10' | exact hb9' | exact hb8' | exact (by repeat (first | exact Below.refl _ _ | assumption | refine bel_drew ?_ | refine bel_drewN ?_ _ | refine bel_alloc ?_ _ | refine bel_set ?_ (by first | (dsimp only; omega) | (simp; done) | (simp; omega)) _ | refine bel_trans ?_ (by assumption)))))); clear hKW KW; (try simp only [Act.put, List.setIfInBounds_toArray, List.set_cons_zero, List.set_cons_succ])
              refine tk_call 12 rfl (by kernel_rfl) (by kernel_rfl) (fun KW hKW => ?_); refine app_oper2 (.tmp 61) (.tmp 65) rfl W2.heap.size v9 ([] ++ out ++ [(px, py + m)]) rfl ho9.out (some ⟨g, (o + 2) * 2, none⟩) (q - (o + 2)) _ (l.drop (k + 1)) rfl (KR.out _ (bel_trans BrW2.out hHeld.1)) (by simp; rw [HO.out]; omega) hHeld.1.size ?_; intro v10 w10 ho10 hb10 hg10; replace ho10 := Lib.hid ho10; have hb10' := bel_trans' hHeld.1 hb10 (Nat.le_refl _); refine hKW.out _ _ ?_ (fun hHeld => ?_); (focus ((try dsimp only); exact KS8.out _ (by first | exact hb10' | exact hb9' | exact hb8' | exact (by repeat (first | exact Below.refl _ _ | assumption | refine bel_drew ?_ | refine bel_drewN ?_ _ | refine bel_alloc ?_ _ | refine bel_set ?_ (by first | (dsimp only; omega) | (simp; done) | (simp; omega)) _ | refine bel_trans ?_ (by assumption)))))); clear hKW KW; (try simp only [Act.put, List.setIfInBounds_toArray, List.set_cons_zero, List.set_cons_succ])
              refine tk_yes 13 (v := ?_) rfl (by kernel_rfl) (by kernel_rfl) (by kernel_rfl) (fun _ _ _ h => h) (by kernel_rfl) (by assumption) ?_ ?_; rotate_left; (focus (intro w hSw; (try dsimp only at hSw); go_simp; (first | done | (with_reducible rfl)))); (try simp only [Act.put, List.setIfInBounds_toArray, List.set_cons_zero, List.set_cons_succ])
              refine wpAnyH_done (by kernel_rfl) ?_ _
              go_wp2_with fail
              go_roundw
              case rel => exact ⟨k + 1, out, (px, py + m), by omega, by have := HLn.out; omega, by rw [HO.out], st.out, by have := ho10.out.mono HSZ2.out; simpa using this, bel_trans' BW2.out hb10' HSZ2.out⟩
              case measure =>
                have e := own_lenV ho10.out
                have e2 := HO.out
                have e3 := Q1.out
                have e4 := HLn.out
                simp only [List.length_append, List.length_cons, List.length_nil, List.length_drop] at e
                simp [intOf, lenV_slice]
                omega
            · go_simp; skip; refine hKW.out _ _ ?_ (fun hHeld => ?_); (focus ((try dsimp only); exact KS8.out _ (by first | exact hb10' | exact hb9' | exact hb8' | exact (by repeat (first | exact Below.refl _ _ | assumption | refine bel_drew ?_ | refine bel_drewN ?_ _ | refine bel_alloc ?_ _ | refine bel_set ?_ (by first | (dsimp only; omega) | (simp; done) | (simp; omega)) _ | refine bel_trans ?_ (by assumption)))))); clear hKW KW; (try simp only [Act.put, List.setIfInBounds_toArray, List.set_cons_zero, List.set_cons_succ])
              refine tk_call 4 rfl (by kernel_rfl) (by kernel_rfl) (fun KW hKW => ?_); refine app_oper2 (.tmp 54) (.tmp 57) rfl W2.heap.size (.slice (some ⟨W2.heap.size, 0, none⟩) 0 0) [] rfl (OwnS.keep (B := W2.heap.size) (w := W2.alloc (.cells #[] 37)) (l := []) (own_emptyS 2 W2 _) (by repeat (first | exact Below.refl _ _ | assumption | refine bel_drew ?_ | refine bel_drewN ?_ _ | refine bel_alloc ?_ _ | refine bel_set ?_ (by first | (dsimp only; omega) | (simp; done) | (simp; omega)) _ | refine bel_trans ?_ (by assumption)))) (some ⟨g, 0, none⟩) o _ out rfl (KT.out _ (bel_trans BrW2.out hHeld.1)) (by simp; omega) hHeld.1.size ?_; intro v8 w8 ho8 hb8 hg8; replace ho8 := Lib.hid ho8; have hb8' := bel_trans' hHeld.1 hb8 (Nat.le_refl _); refine hKW.out _ _ ?_ (fun hHeld => ?_); (focus ((try dsimp only); exact KS8.out _ (by first | exact hb10' | exact hb9' | exact hb8' | exact (by repeat (first | exact Below.refl _ _ | assumption | refine bel_drew ?_ | refine bel_drewN ?_ _ | refine bel_alloc ?_ _ | refine bel_set ?_ (by first | (dsimp only; omega) | (simp; done) | (simp; omega)) _ | refine bel_trans ?_ (by assumption)))))); clear hKW KW; (try simp only [Act.put, List.setIfInBounds_toArray, List.set_cons_zero, List.set_cons_succ])
              refine tk_call 7 rfl (by kernel_rfl) (by kernel_rfl) (fun KW hKW => ?_); refine app_oper2 (.tmp 58) (.tmp 60) rfl W2.heap.size v8 ([] ++ out) rfl ho8.out (some ⟨_, 0, none⟩) 1 1 [(px, py + m)] rfl (src_one (World.grownBy.cell hg8 (by simp [go_sem]) (by simp [Value.ownBlock])) (World.grownBy.cell hg8 (by simp [go_sem]) (by simp [Value.ownBlock]))) (by simp; rw [HO.out]; omega) hHeld.1.size ?_; intro v9 w9 ho9 hb9 hg9; replace ho9 := Lib.hid ho9; have hb9' := bel_trans' hHeld.1 hb9 (Nat.le_refl _); refine hKW.out _ _ ?_ (fun hHeld => ?_); (focus ((try dsimp only); exact KS8.out _ (by first | exact hb10' | exact hb9' | exact hb8' | exact (by repeat (first | exact Below.refl _ _ | assumption | refine bel_drew ?_ | refine bel_drewN ?_ _ | refine bel_alloc ?_ _ | refine bel_set ?_ (by first | (dsimp only; omega) | (simp; done) | (simp; omega)) _ | refine bel_trans ?_ (by assumption)))))); clear hKW KW; (try simp only [Act.put, List.setIfInBounds_toArray, List.set_cons_zero, List.set_cons_succ])
              refine tk_call 12 rfl (by kernel_rfl) (by kernel_rfl) (fun KW hKW => ?_); refine app_oper2 (.tmp 61) (.tmp 65) rfl W2.heap.size v9 ([] ++ out ++ [(px, py + m)]) rfl ho9.out (some ⟨g, (o + 2) * 2, none⟩) (q - (o + 2)) _ (l.drop (k + 1)) rfl (KR.out _ (bel_trans BrW2.out hHeld.1)) (by simp; rw [HO.out]; omega) hHeld.1.size ?_; intro v10 w10 ho10 hb10 hg10; replace ho10 := Lib.hid ho10; have hb10' := bel_trans' hHeld.1 hb10 (Nat.le_refl _); refine hKW.out _ _ ?_ (fun hHeld => ?_); (focus ((try dsimp only); exact KS8.out _ (by first | exact hb10' | exact hb9' | exact hb8' | exact (by repeat (first | exact Below.refl _ _ | assumption | refine bel_drew ?_ | refine bel_drewN ?_ _ | refine bel_alloc ?_ _ | refine bel_set ?_ (by first | (dsimp only; omega) | (simp; done) | (simp; omega)) _ | refine bel_trans ?_ (by assumption)))))); clear hKW KW; (try simp only [Act.put, List.setIfInBounds_toArray, List.set_cons_zero, List.set_cons_succ])
              refine tk_yes 13 (v := ?_) rfl (by kernel_rfl) (by kernel_rfl) (by kernel_rfl) (fun _ _ _ h => h) (by kernel_rfl) (by assumption) ?_ ?_; rotate_left; (focus (intro w hSw; (try dsimp only at hSw); go_simp; (first | done | (with_reducible rfl)))); (try simp only [Act.put, List.setIfInBounds_toArray, List.set_cons_zero, List.set_cons_succ])
              refine wpAnyH_done (by kernel_rfl) ?_ _
              go_wp2_with fail
              go_roundw
              case rel => exact ⟨k + 1, out, (px, py + m), by omega, by have := HLn.out; omega, by rw [HO.out], st.out, by have := ho10.out.mono HSZ2.out; simpa using this, bel_trans' BW2.out hb10' HSZ2.out⟩
              case measure =>
                have e := own_lenV ho10.out
                have e2 := HO.out
                have e3 := Q1.out
                have e4 := HLn.out
                simp only [List.length_append, List.length_cons, List.length_nil, List.length_drop] at e
                simp [intOf, lenV_slice]
                omega
          · go_simp; skip; refine hKW.out _ _ ?_ (fun hHeld => ?_); (focus ((try dsimp only); exact KS8.out _ (by first | exact hb10' | exact hb9' | exact hb8' | exact (by repeat (first | exact Below.refl _ _ | assumption | refine bel_drew ?_ | refine bel_drewN ?_ _ | refine bel_alloc ?_ _ | refine bel_set ?_ (by first | (dsimp only; omega) | (simp; done) | (simp; omega)) _ | refine bel_trans ?_ (by assumption)))))); clear hKW KW; (try simp only [Act.put, List.setIfInBounds_toArray, List.set_cons_zero, List.set_cons_succ])
            refine tk_call 0 rfl (by kernel_rfl) (by kernel_rfl) (fun KW hKW => ?_); go_simp; skip; refine hKW.out _ _ ?_ (fun hHeld => ?_); (focus ((try dsimp only); exact KS8.out _ (by first | exact hb10' | exact hb9' | exact hb8' | exact (by repeat (first | exact Below.refl _ _ | assumption | refine bel_drew ?_ | refine bel_drewN ?_ _ | refine bel_alloc ?_ _ | refine bel_set ?_ (by first | (dsimp only; omega) | (simp; done) | (simp; omega)) _ | refine bel_trans ?_ (by assumption)))))); clear hKW KW; (try simp only [Act.put, List.setIfInBounds_toArray, List.set_cons_zero, List.set_cons_succ])
            refine tk_call 4 rfl (by kernel_rfl) (by kernel_rfl) (fun KW hKW => ?_); refine app_oper2 (.tmp 54) (.tmp 57) rfl W2.heap.size (.slice (some ⟨W2.heap.size + 1, 0, none⟩) 0 0) [] rfl (OwnS.keep HOWN6.out (by repeat (first | exact Below.refl _ _ | assumption | refine bel_drew ?_ | refine bel_drewN ?_ _ | refine bel_alloc ?_ _ | refine bel_set ?_ (by first | (dsimp only; omega) | (simp; done) | (simp; omega)) _ | refine bel_trans ?_ (by assumption)))) (some ⟨g, 0, none⟩) o _ out rfl (KT.out _ (bel_trans BrW2.out hHeld.1)) (by simp; omega) hHeld.1.size ?_; intro v8 w8 ho8 hb8 hg8; replace ho8 := Lib.hid ho8; have hb8' := bel_trans' hHeld.1 hb8 (Nat.le_refl _); refine hKW.out _ _ ?_ (fun hHeld => ?_); (focus ((try dsimp only); exact KS8.out _ (by first | exact hb10' | exact hb9' | exact hb8' | exact (by repeat (first | exact Below.refl _ _ | assumption | refine bel_drew ?_ | refine bel_drewN ?_ _ | refine bel_alloc ?_ _ | refine bel_set ?_ (by first | (dsimp only; omega) | (simp; done) | (simp; omega)) _ | refine bel_trans ?_ (by assumption)))))); clear hKW KW; (try simp only [Act.put, List.setIfInBounds_toArray, List.set_cons_zero, List.set_cons_succ])
            refine tk_call 7 rfl (by kernel_rfl) (by kernel_rfl) (fun KW hKW => ?_); refine app_oper2 (.tmp 58) (.tmp 60) rfl W2.heap.size v8 ([] ++ out) rfl ho8.out (some ⟨_, 0, none⟩) 1 1 [(px, py + m)] rfl (src_one (World.grownBy.cell hg8 (by simp [go_sem]) (by simp [Value.ownBlock])) (World.grownBy.cell hg8 (by simp [go_sem]) (by simp [Value.ownBlock]))) (by simp; rw [HO.out]; omega) hHeld.1.size ?_; intro v9 w9 ho9 hb9 hg9; replace ho9 := Lib.hid ho9; have hb9' := bel_trans' hHeld.1 hb9 (Nat.le_refl _); refine hKW.out _ _ ?_ (fun hHeld => ?_); (focus ((try dsimp only); exact KS8.out _ (by first | exact hb10' | exact hb9' | exact hb8' | exact (by repeat (first | exact Below.refl _ _ | assumption | refine bel_drew ?_ | refine bel_drewN ?_ _ | refine bel_alloc ?_ _ | refine bel_set ?_ (by first | (dsimp only; omega) | (simp; done) | (simp; omega)) _ | refine bel_trans ?_ (by assumption)))))); clear hKW KW; (try simp only [Act.put, List.setIfInBounds_toArray, List.set_cons_zero, List.set_cons_succ])
            refine tk_call 12 rfl (by kernel_rfl) (by kernel_rfl) (fun KW hKW => ?_); refine app_oper2 (.tmp 61) (.tmp 65) rfl W2.heap.size v9 ([] ++ out ++ [(px, py + m)]) rfl ho9.out (some ⟨g, (o + 2) * 2, none⟩) (q - (o + 2)) _ (l.drop (k + 1)) rfl (KR.out _ (bel_trans BrW2.out hHeld.1)) (by simp; rw [HO.out]; omega) hHeld.1.size ?_; intro v10 w10 ho10 hb10 hg10; replace ho10 := Lib.hid ho10; have hb10' := bel_trans' hHeld.1 hb10 (Nat.le_refl _); refine hKW.out _ _ ?_ (fun hHeld => ?_); (focus ((try dsimp only); exact KS8.out _ (by first | exact hb10' | exact hb9' | exact hb8' | exact (by repeat (first | exact Below.refl _ _ | assumption | refine bel_drew ?_ | refine bel_drewN ?_ _ | refine bel_alloc ?_ _ | refine bel_set ?_ (by first | (dsimp only; omega) | (simp; done) | (simp; omega)) _ | refine bel_trans ?_ (by assumption)))))); clear hKW KW; (try simp only [Act.put, List.setIfInBounds_toArray, List.set_cons_zero, List.set_cons_succ])
            refine tk_yes 13 (v := ?_) rfl (by kernel_rfl) (by kernel_rfl) (by kernel_rfl) (fun _ _ _ h => h) (by kernel_rfl) (by assumption) ?_ ?_; rotate_left; (focus (intro w hSw; (try dsimp only at hSw); go_simp; (first | done | (with_reducible rfl)))); (try simp only [Act.put, List.setIfInBounds_toArray, List.set_cons_zero, List.set_cons_succ])
            refine wpAnyH_done (by kernel_rfl) ?_ _
            go_wp2_with fail
            go_roundw
            case rel => exact ⟨k + 1, out, (px, py + m), by omega, by have := HLn.out; omega, by rw [HO.out], st.out, by have := ho10.out.mono HSZ2.out; simpa using this, bel_trans' BW2.out hb10' HSZ2.out⟩
            case measure =>
              have e := own_lenV ho10.out
              have e2 := HO.out
              have e3 := Q1.out
              have e4 := HLn.out
              simp only [List.length_append, List.length_cons, List.length_nil, List.length_drop] at e
              simp [intOf, lenV_slice]
              omega
      · rw [PS.stepM_no (show PS.fin (px, py) ≠ (x, m).1 by unfold PS.fin; dsimp only; omega)] at st
        replace st := Lib.hid st
        have hfq : (x - px == py) = false := by simpa using hf
        replace hf := Lib.hid hf
        go_wp2_with fail
        go_quiet (fail)
        go_wp2_with fail
        go_roundw
        case rel =>
          refine ⟨k + 1, out ++ [(px, py)], (x, m), by omega, by have := HLn.out; omega, ?_, st.out, ?_, (by repeat (first | exact Below.refl _ _ | assumption | refine bel_drew ?_ | refine bel_drewN ?_ _ | refine bel_alloc ?_ _ | refine bel_set ?_ (by first | (dsimp only; omega) | (simp; done) | (simp; omega)) _ | refine bel_trans ?_ (by assumption)))⟩
          · rw [List.length_append, HO.out]; rfl
          · have e : out ++ [(px, py)] ++ [(x, m)] ++ l.drop (k + 1) = L := by rw [← HLE.out, hdr'.out]; simp
            rw [e]
            exact HOWN.out.keep (by repeat (first | exact Below.refl _ _ | assumption | refine bel_drew ?_ | refine bel_drewN ?_ _ | refine bel_alloc ?_ _ | refine bel_set ?_ (by first | (dsimp only; omega) | (simp; done) | (simp; omega)) _ | refine bel_trans ?_ (by assumption)))
        case measure => simp [intOf, lenV_slice]; omega
    · have hkl : k = l.length := by have := HLn.out; have := Q1.out; omega
      have hLm : L = PS.mergeL l := by rw [← HLE.out, ← HME.out, hkl, List.take_length, List.drop_length, List.append_nil]
      have hfin := Lib.hid (HFIN.out _ _ (hLm ▸ HOWN.out) hbel)
      replace hlt : (q : Int) ≤ (o : Int) + 1 := by omega
      clear hLm hkl m2 m3 hpbd
      go_wp2_with fail
      exact hfin.out

theorem ref08_Merge {A : Option Addr} {n : Nat} {l : List PS.Sp} (c : Nat) {w : World} (h : SpansAt w A n l) (hn : n ≤ 1000) :
    Calls Try.prog 65 #[.slice A n c] w (GivesL w (mergeV l).length (mergeV l) (PS.right l)) := by
  unfold mergeV
  rcases hr : PS.right l with _ | _
  · rw [if_neg (by simp)]
    exact ref08_Merge_no c h hr
  · rw [if_pos rfl]
    by_cases h0 : 0 < n
    · obtain ⟨b, off, rfl, -, -⟩ := h.2.2.2 h0
      exact ref08_Merge_some b off n c l w h h0 hn hr
    · obtain rfl : n = 0 := by omega
      obtain rfl := List.eq_nil_of_length_eq_zero h.1
      exact ref08_Merge_empty A c w
end Go.Proofs.Ytfgfnfjeopjbgaa
