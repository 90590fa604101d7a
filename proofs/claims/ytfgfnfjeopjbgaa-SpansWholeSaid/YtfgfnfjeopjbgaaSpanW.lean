/-
  The walk of the law SpansWhole.
-/
import Derived.Test.YtfgfnfjeopjbgaaSpanU
import Derived.Test.YtfgfnfjeopjbgaaPlainSpans8
namespace Go.Proofs.Ytfgfnfjeopjbgaa
open Go.RowKit
set_option linter.unusedVariables false
set_option linter.unusedSimpArgs false
attribute [local go_sem] drewN_alloc drewN_setCell

theorem St.right {l all : List PS.Sp} {i : Nat} (hr : PS.right l = true) (h : PS.St l i all) : PS.right all = true := by
  obtain ⟨k, hk, -, rfl⟩ := h
  exact PS.st_right hr hk

def WholeRel (W0 : World) (l : List PS.Sp) (r : Nat) (sv i : Value) (wr : World) : Prop :=
  ∃ (j : Nat) (all : List PS.Sp) (A : Option Addr) (c q : Nat), j ≤ r ∧ i = .int .i64 j ∧ sv = .slice A q c ∧ SpansAt wr A q all ∧ CapOk A q c ∧ PS.St l j all ∧ q ≤ 40 + j ∧ Below W0.heap.size W0 wr

theorem own_val' {B : Nat} {w : World} {v : Value} {l : List PS.Sp} {n : Nat} (h : OwnS B w v ([] ++ l)) (hbd : ∀ s ∈ l, SpBd s) (hl : l.length = n) : ∃ A c, v = .slice A n c ∧ SpansAt w A n l ∧ CapOk A n c := by
  subst hl
  exact OwnS.val (l := l) h hbd
/-- The part behind the two tests, at spans in order. -/
theorem cutV_right {l : List PS.Sp} {t q : Int} (hr : PS.right l = true) (ht : 0 ≤ t) (hq : 0 ≤ q) : PS.right (cutV l t q) = true := by
  unfold cutV
  split
  · split
    · exact hr
    · have := (PS.cut_right (l := l) (t := t) (q := q) (en := (PN.add t q).1) (fits := (PN.add t q).2) hr ht hq (fun h => by unfold PN.add at h ⊢; split <;> simp_all) (k := l.length) (Nat.le_refl _)).1
      rwa [List.take_length] at this
  · rfl
theorem cutV_find {l : List PS.Sp} {t q : Int} (hq : 0 < q) : PS.find (cutV l t q) t = -1 := by
  unfold cutV
  split
  · rw [if_neg (by omega)]
    exact PS.find_none (PS.cut_find hq (fun h => by unfold PN.add at h ⊢; split <;> simp_all))
  · exact PS.find_none (fun s hs => by simp at hs)
theorem cutB_true {l : List PS.Sp} {t q : Int} (hr : PS.right l = true) (ht : 0 ≤ t) (hq : 0 ≤ q) : cutB l t q = true := by
  unfold cutB; simp [hr, ht, hq]

theorem law08_Whole_off (A : Option Addr) (n c : Nat) (l : List PS.Sp) (n0 n1 : Int) (w : World) (h : SpansAt w A n l) (hr : 40 < n ∨ PS.right l = false) :
    Calls Try.prog 15 #[.slice A n c, .agg #[.int .i64 n0, .int .i64 n1]] w fun e w' => e = .returned (.bool true) ∧ Below w.heap.size w w' := by
  have K := ref08_Right c (h.keep (bel_alloc (Below.refl _ _) (.cells #[.int .i64 n0, .int .i64 n1] 31)))
  clear h
  by_cases hbig : (40 : Int) < n
  · clear hr
    go_enter Try.func15, Try.ntmps15
    go_wp2_with fail
    refine (law08_works _).mono ?_
    rintro e w5 ⟨rfl, h5⟩
    go_wp2_with fail
    go_ret
    exact ⟨rfl, (by repeat (first | exact Below.refl _ _ | assumption | refine bel_drew ?_ | refine bel_drewN ?_ _ | refine bel_alloc ?_ _ | refine bel_set ?_ (by first | (dsimp only; omega) | (simp; done) | (simp; omega)) _ | refine bel_trans ?_ (by assumption)))⟩
  · have hf : PS.right l = false := hr.resolve_left (by omega)
    rw [hf] at K
    replace K := Lib.hid K
    replace hbig : (n : Int) ≤ 40 := by omega
    clear hr hf
    go_enter Try.func15, Try.ntmps15
    go_wp2_with fail
    refine K.out.mono ?_
    rintro e w4 ⟨rfl, h4⟩
    go_wp2_with fail
    refine (law08_works _).mono ?_
    rintro e w5 ⟨rfl, h5⟩
    go_wp2_with fail
    go_ret
    exact ⟨rfl, (by repeat (first | exact Below.refl _ _ | assumption | refine bel_drew ?_ | refine bel_drewN ?_ _ | refine bel_alloc ?_ _ | refine bel_set ?_ (by first | (dsimp only; omega) | (simp; done) | (simp; omega)) _ | refine bel_trans ?_ (by assumption)))⟩

set_option maxRecDepth 100000 in
set_option maxHeartbeats 16000000 in
theorem law08_Whole_on (A : Option Addr) (n c : Nat) (l : List PS.Sp) (n0 n1 : Int) (w : World) (h : SpansAt w A n l) (hc : CapOk A n c) (hn : n ≤ 40) (h0 : -9223372036854775808 ≤ n0 ∧ n0 ≤ 9223372036854775807) (h1 : -9223372036854775808 ≤ n1 ∧ n1 ≤ 9223372036854775807) (hr : PS.right l = true) :
    Calls Try.prog 15 #[.slice A n c, .agg #[.int .i64 n0, .int .i64 n1]] w fun e w' => e = .returned (.bool true) ∧ Below w.heap.size w w' := by
  have hbig : (n : Int) ≤ 40 := by omega
  obtain ⟨w0, hw0⟩ : ∃ w0, w.alloc (.cells #[.int .i64 n0, .int .i64 n1] 31) = w0 := ⟨_, rfl⟩
  have hB0 : Below w.heap.size w w0 := by rw [← hw0]; exact bel_alloc (Below.refl _ _) _
  have d0 : w0.cell? ⟨w.heap.size, 0, none⟩ = some (.int .i64 n0) := by rw [← hw0]; simp [go_sem]
  have d1 : w0.cell? ⟨w.heap.size, 1, none⟩ = some (.int .i64 n1) := by rw [← hw0]; simp [go_sem]
  have ds : w.heap.size < w0.heap.size := by rw [← hw0]; simp
  have h' := h.keep hB0
  have hn' : n ≤ 1000 := by omega
  have K0 := fun W (hW : Below w0.heap.size w0 W) => ref08_Right c (h'.keep hW)
  rw [hr] at K0
  have K1 := fun W (hW : Below w0.heap.size w0 W) => spans_Merge c (h'.keep hW) hn'
  rw [hr] at K1
  have hm := PS.merge_right hr (k := l.length) (Nat.le_refl _)
  rw [PS.merge_all, List.take_length] at hm
  have hmv : mergeV l = PS.mergeL l := by unfold mergeV; rw [if_pos hr]
  rw [hmv] at K1
  have KR : ∀ W A' c' k (z : List PS.Sp), PS.right z = true → SpansAt W A' k z → Calls Try.prog 32 #[.slice A' k c'] W fun e w' => e = .returned (.bool true) ∧ Below W.heap.size W w' := fun W A' c' k z hz hs => by
    have := spans_Right c' hs
    rwa [hz] at this
  have KT : ∀ W A' c' k (z : List PS.Sp), PS.right z = true → PS.sum z = PS.sum l → SpansAt W A' k z → Calls Try.prog 24 #[.slice A' k c'] W fun e w' => e = .returned (.int .i64 (PS.sum l)) ∧ Below W.heap.size W w' := fun W A' c' k z hz hs hq => by
    have := spans_Total c' hq
    unfold PS.total at this
    rwa [if_pos hz, hs] at this
  have K7 : ∀ W A' B' c' d' (k : Nat) (z : List PS.Sp), SpansAt W A' k z → SpansAt W B' k z → Calls Try.prog 34 #[.slice A' k c', .slice B' k d'] W fun e w' => e = .returned (.bool true) ∧ Below W.heap.size W w' := fun W A' B' c' d' k z h1 h2 => by
    have := base_SameSpans c' d' h1 h2
    rwa [decide_eq_true rfl] at this
  generalize PS.mergeL l = L1 at *
  generalize L1.length = q1 at *
  obtain ⟨T, hT⟩ : ∃ T, PS.sum l = T := ⟨_, rfl⟩
  rw [hT] at KT hm
  obtain ⟨bs, hbs⟩ : ∃ bs, w.heap.size = bs := ⟨_, rfl⟩
  have D0 : Hid (w0.cell? ⟨bs, 0, none⟩ = some (.int .i64 n0)) := Lib.hid (by rw [← hbs]; exact d0)
  have D1 : Hid (w0.cell? ⟨bs, 1, none⟩ = some (.int .i64 n1)) := Lib.hid (by rw [← hbs]; exact d1)
  have DS : Hid (bs < w0.heap.size) := Lib.hid (by rw [← hbs]; exact ds)
  have HSZ : Hid (w.heap.size ≤ w0.heap.size) := Lib.hid (by omega)
  have HLn := Lib.hid h.1
  have HB0 := Lib.hid hB0
  replace K0 := Lib.hid K0
  replace K1 := Lib.hid K1
  replace KR := Lib.hid KR
  replace KT := Lib.hid KT
  replace K7 := Lib.hid K7
  replace hm := Lib.hid hm
  replace hT := Lib.hid hT
  replace hr := Lib.hid hr
  replace h' := Lib.hid h'
  replace hw0 := Lib.hid hw0
  replace hbs := Lib.hid hbs
  replace hc := Lib.hid hc
  clear h hB0 d0 d1 ds hmv
  go_enter Try.func15, Try.ntmps15
  go_wp2_with fail
  rw [hw0.out, hbs.out]
  refine (K0.out _ (Below.refl _ _)).mono ?_
  rintro e w1 ⟨rfl, g1⟩
  go_wp2_with fail
  refine (K1.out _ (by repeat (first | exact Below.refl _ _ | assumption | refine bel_drew ?_ | refine bel_drewN ?_ _ | refine bel_alloc ?_ _ | refine bel_set ?_ (by first | (dsimp only; omega) | (simp; done) | (simp; omega)) _ | refine bel_trans ?_ (by assumption)))).mono ?_
  rintro e w2 ⟨A2, c2, rfl, s2, -, g2⟩
  replace s2 := Lib.hid s2
  go_wp2_with fail
  refine (KR.out _ _ _ _ _ hm.out.1 s2.out).mono ?_
  rintro e w3 ⟨rfl, g3⟩
  replace s2 := Lib.hid (s2.out.keep g3)
  go_wp2_with fail
  refine (KT.out _ _ _ _ _ hm.out.1 hm.out.2.2 s2.out).mono ?_
  rintro e w4 ⟨rfl, g4⟩
  have B4 : Below w0.heap.size w0 w4 := (by repeat (first | exact Below.refl _ _ | assumption | refine bel_drew ?_ | refine bel_drewN ?_ _ | refine bel_alloc ?_ _ | refine bel_set ?_ (by first | (dsimp only; omega) | (simp; done) | (simp; omega)) _ | refine bel_trans ?_ (by assumption)))
  go_wp2_with fail
  refine (KT.out _ _ _ _ _ hr.out hT.out (h'.out.keep B4)).mono ?_
  rintro e w5 ⟨rfl, g5⟩
  have BY : Below w0.heap.size w0 w5 := (by repeat (first | exact Below.refl _ _ | assumption | refine bel_drew ?_ | refine bel_drewN ?_ _ | refine bel_alloc ?_ _ | refine bel_set ?_ (by first | (dsimp only; omega) | (simp; done) | (simp; omega)) _ | refine bel_trans ?_ (by assumption)))
  have E0 := cell_after BY DS.out D0.out
  have E1 := cell_after BY DS.out D1.out
  have ZB : bs < w5.heap.size := Nat.lt_of_lt_of_le DS.out BY.size
  replace BY := Lib.hid BY
  clear g1 g2 g3 g4 g5 B4 s2
  by_cases hneg : 0 ≤ n0 ∧ 0 ≤ n1
  · obtain ⟨p0, p1⟩ := hneg
    have KC := fun W (hW : Below w0.heap.size w0 W) => spans_Cut n0 n1 (h'.out.keep hW) hc.out hn' h0 h1
    rw [cutB_true hr.out p0 p1] at KC
    have hcr := cutV_right (q := n1) hr.out p0 p1
    obtain ⟨fd, hfd⟩ : ∃ fd, PS.find (cutV l n0 n1) n0 = fd := ⟨_, rfl⟩
    have KF : ∀ W A' c' k, SpansAt W A' k (cutV l n0 n1) → Calls Try.prog 22 #[.slice A' k c', .int .i64 n0] W fun e w' => e = .returned (.int .i64 fd) ∧ Below W.heap.size W w' := fun W A' c' k hs => by
      have := spans_Find c' n0 hs h0.2
      rwa [hfd] at this
    have hfd2 : fd < 0 ∨ n1 = 0 := by
      rcases Int.lt_or_le 0 n1 with hp | hp
      · left; rw [← hfd, cutV_find hp]; omega
      · right; omega
    generalize cutV l n0 n1 = L2 at *
    generalize L2.length = q2 at *
    replace KC := Lib.hid KC
    replace KF := Lib.hid KF
    replace hcr := Lib.hid hcr
    clear hfd
    go_wp2_with fail
    refine (KC.out _ BY.out).mono ?_
    rintro e w6 ⟨A6, c6, rfl, s6, -, g6⟩
    replace s6 := Lib.hid s6
    have E60 := cell_after g6 ZB E0
    have E61 := cell_after g6 ZB E1
    have Z6 : bs < w6.heap.size := Nat.lt_of_lt_of_le ZB g6.size
    go_wp2_with fail
    refine (KR.out _ _ _ _ _ hcr.out s6.out).mono ?_
    rintro e w7 ⟨rfl, g7⟩
    replace s6 := Lib.hid (s6.out.keep g7)
    have E70 := cell_after g7 Z6 E60
    have E71 := cell_after g7 Z6 E61
    have Z7 : bs < w7.heap.size := Nat.lt_of_lt_of_le Z6 g7.size
    go_wp2_with fail
    refine (KF.out _ _ _ _ s6.out).mono ?_
    rintro e w8 ⟨rfl, g8⟩
    have E80 := cell_after g8 Z7 E70
    have E81 := cell_after g8 Z7 E71
    have BY' : Below w0.heap.size w0 w8 := bel_trans (bel_trans (bel_trans BY.out g6) g7) g8
    clear BY
    have BY := Lib.hid BY'
    clear BY' g6 g7 g8 E60 E61 E70 E71 Z6 Z7 s6 E0 E1 ZB
    rcases Int.lt_or_le fd 0 with hf | hf
    · clear hfd2
      by_cases hn0 : n = 0
      · subst hn0
        go_wp2_with fail
        refine (law08_works _).mono ?_
        rintro e z1 ⟨rfl, hz1⟩
        have hfin := bel_trans' HB0.out (bel_trans BY.out hz1) HSZ.out
        go_wp2_with fail
        go_ret
        exact ⟨rfl, hfin⟩
      · obtain ⟨k, rfl⟩ : ∃ k, n = k + 1 := ⟨n - 1, by omega⟩
        have hll := HLn.out
        obtain ⟨b, off, rfl, -, -⟩ := h'.out.2.2.2 (by omega)
        obtain ⟨x, m, hs, x0, x1, bx1, bm1⟩ := h'.out.row BY.out (k := k) (by omega)
        have hkl : k < l.length := by omega
        have hw := (PS.whole_iff _).1 (PS.right_whole hr.out hkl)
        have hen : PS.endOf l = x + m := by
          have e := PS.endOf_pos (l := l) (k := l.length) (by omega) (Nat.le_refl _)
          rw [List.take_length] at e
          have e2 : l.length - 1 = k := by omega
          simp only [e2] at e
          rw [e, hs hkl]
          rfl
        rw [hs hkl] at hw
        obtain ⟨g1, g2, g3⟩ := hw
        dsimp only at g1 g2 g3
        clear hs
        have hne : (((k + 1 : Nat) : Int) == 0) = false := by simp; omega
        have hc1 : ((k + 1 : Nat) : Int) = (k : Int) + 1 := by omega
        rw [hc1] at hne hbig ⊢
        have j0 : (0 : Int) ≤ (k : Int) := by omega
        have j1 : (k : Int) < (k : Int) + 1 := by omega
        have j2 : IntKind.i64.wrap (k : Int) = k := by rw [IntKind.wrap_i64]; omega
        have j3 : k < k + 1 := by omega
        have j4 : IntKind.i64.wrap (x + m) = x + m := by rw [IntKind.wrap_i64]; omega
        have HEN := Lib.hid hen
        have hsrc := fun W (hW : Below w0.heap.size w0 W) => (h'.out.keep hW).src'
        replace hsrc := Lib.hid hsrc
        have KH := fun W (hW : Below w0.heap.size w0 W) => spans_Holes c (x + m) (h'.out.keep hW) (by omega) g3
        rw [← hen, PS.holes_end hr.out (by omega)] at KH
        have hHl := PS.hol_len l (PS.endOf l) l.length
        obtain ⟨H, hH⟩ : ∃ H, PS.holK l (PS.endOf l) l.length = H := ⟨_, rfl⟩
        rw [hH] at KH hHl
        obtain ⟨r, hrr⟩ : ∃ r, H.length = r := ⟨_, rfl⟩
        rw [hrr] at KH hHl
        rw [hen] at KH
        obtain ⟨en, he⟩ : ∃ en, x + m = en := ⟨_, rfl⟩
        rw [he] at KH j4 g3 hen HEN
        have HHq := Lib.hid hH
        have HRR := Lib.hid hrr
        replace KH := Lib.hid KH
        have he' := Lib.hid he
        have g4 : 0 ≤ en := by omega
        clear hen hH hrr hc1 hll
        go_wp2_with fail
        go_quiet (fail)
        go_wp2_with (at_builtin; refine app_list2 rfl (.tmp 100) (.tmp 101) rfl w0.heap.size _ [] rfl (by exact OwnS.keep (OwnS.mono (own_emptyS 2 _ _) BY.out.size) (by repeat (first | exact Below.refl _ _ | assumption | refine bel_drew ?_ | refine bel_drewN ?_ _ | refine bel_alloc ?_ _ | refine bel_set ?_ (by first | (dsimp only; omega) | (simp; done) | (simp; omega)) _ | refine bel_trans ?_ (by assumption)))) (some ⟨b, off, none⟩) (k + 1) c l rfl (hsrc.out _ (by have := BY.out; exact (by repeat (first | exact Below.refl _ _ | assumption | refine bel_drew ?_ | refine bel_drewN ?_ _ | refine bel_alloc ?_ _ | refine bel_set ?_ (by first | (dsimp only; omega) | (simp; done) | (simp; omega)) _ | refine bel_trans ?_ (by assumption))))) (by simp; omega) (Nat.le_trans BY.out.size (by simp)) ?_; intro v1 z1 ho1 hb1 hg1; have hbz := bel_trans' (show Below w0.heap.size w0 _ from (by have := BY.out; exact (by repeat (first | exact Below.refl _ _ | assumption | refine bel_drew ?_ | refine bel_drewN ?_ _ | refine bel_alloc ?_ _ | refine bel_set ?_ (by first | (dsimp only; omega) | (simp; done) | (simp; omega)) _ | refine bel_trans ?_ (by assumption))))) hb1 (Nat.le_refl _); obtain ⟨A4, c4, rfl, s4, q4⟩ := own_val' ho1 h'.out.2.2.1 HLn.out; replace s4 := Lib.hid s4; replace q4 := Lib.hid q4; replace hbz := Lib.hid hbz; clear hg1 hb1 ho1)
        refine (KH.out _ hbz.out).mono ?_
        rintro e z2 ⟨A3, c3, rfl, s3, -, hz2⟩
        replace s4 := Lib.hid (s4.out.keep hz2)
        replace s3 := Lib.hid s3
        have BZ : Below w0.heap.size w0 z2 := bel_trans hbz.out hz2
        replace BZ := Lib.hid BZ
        have jr : (r : Int) ≤ 1000 := by have := HLn.out; omega
        have jr2 : r ≤ 40 := by have := HLn.out; omega
        clear hz2 hbz x0 x1
        go_wp2_with fail
        go_loopw [10, 12] (fun sv i wr => WholeRel z2 l r sv i wr) (fun _ i _ => r - (intOf i).toNat)
        case atStart => exact ⟨0, l, A4, c4, k + 1, Nat.zero_le _, rfl, rfl, s4.out, q4.out, ⟨0, Nat.zero_le _, rfl, by simp [PS.fill]⟩, by omega, Below.refl _ _⟩
        case round =>
          obtain ⟨j, all, Aj, cj, qj, hj, rfl, rfl, sj, capj, stj, hq, hbel⟩ := hrel
          have jj : (0 : Int) ≤ (j : Int) := by omega
          have hra := St.right hr.out stj
          by_cases hlt : (j : Int) < r
          · obtain ⟨b3, o3, rfl, -, -⟩ := s3.out.2.2.2 (by omega)
            obtain ⟨hx, hm2, hs, y0, y1, byx, bym⟩ := s3.out.row hbel (k := j) (by omega)
            have hnx : PS.addB all (hx, hm2) = true ∧ PS.St l (j + 1) (PS.ins all (hx, hm2)) := by
              obtain ⟨k', hk', hl', rfl⟩ := stj
              have hnn := PS.st_next hr.out (l.length - k') k' (by omega) j hl' (by rw [HHq.out, HRR.out]; omega)
              have e : ∀ hh, (PS.holK l (PS.endOf l) l.length)[j]'hh = (hx, hm2) := by rw [HHq.out]; exact hs
              rw [e] at hnn
              exact hnn
            have KA := add_lit hx hm2 (PS.ins all (hx, hm2)) (qj + 1) true sj capj (by omega) ⟨byx, bym⟩ (by unfold PS.addL; rw [if_pos hnx.1]) hnx.1 (by rw [PS.ins_len, sj.1])
            have hst := Lib.hid hnx.2
            generalize PS.ins all (hx, hm2) = all' at *
            replace KA := Lib.hid KA
            clear hs hnx stj sj capj hra
            go_wp2_with fail
            refine KA.out.mono ?_
            rintro e w9 ⟨A9, c9, rfl, s9, q9, g9⟩
            replace s9 := Lib.hid s9
            replace q9 := Lib.hid q9
            go_wp2_with fail
            go_roundw
            case rel => exact ⟨j + 1, all', A9, c9, qj + 1, by omega, by go_num, rfl, s9.out, q9.out, hst.out, by omega, bel_trans hbel g9⟩
            case measure => simp [intOf]; omega
          · have hall : PS.mergeL all = [(0, en)] := by
              obtain ⟨k', hk', hl', rfl⟩ := stj
              rw [PS.st_end hr.out (l.length - k') k' (by omega) (by rw [hl', HHq.out, HRR.out]; omega), PS.merge_fill hr.out (by have := HLn.out; omega), HEN.out]
            have KM : Calls Try.prog 64 #[.slice Aj qj cj] wr (GivesL wr 1 [(0, en)] true) := by
              have := spans_Merge cj sj (by omega)
              unfold mergeV at this
              rw [if_pos hra, hall, hra] at this
              exact this
            have BW : Below w0.heap.size w0 wr := bel_trans BZ.out hbel
            replace KM := Lib.hid KM
            replace BW := Lib.hid BW
            replace hlt : (r : Int) ≤ j := by omega
            clear hall stj sj capj hra hbel
            go_wp2_with fail
            refine KM.out.mono ?_
            rintro e w9 ⟨A9, c9, rfl, s9, -, g9⟩
            replace s9 := Lib.hid s9
            go_wp2_with fail
            refine (K7.out _ _ _ _ _ _ [(0, en)] (s9.out.keep (bel_alloc (Below.refl _ _) _)) (spans_one (by simp) ⟨by simp, by dsimp only; omega, by dsimp only; omega⟩ (by simp [go_sem]) (by simp [go_sem]))).mono ?_
            rintro e wa ⟨rfl, ga⟩
            go_wp2_with fail
            refine (law08_works _).mono ?_
            rintro e wb ⟨rfl, gb⟩
            have hfin := bel_trans' HB0.out (show Below w0.heap.size w0 wb from bel_trans (bel_trans (bel_alloc (bel_trans BW.out g9) _) ga) gb) HSZ.out
            go_wp2_with fail
            go_ret
            exact ⟨rfl, hfin⟩
    · obtain rfl : n1 = 0 := hfd2.resolve_left (by omega)
      clear hfd2
      by_cases hn0 : n = 0
      · subst hn0
        go_wp2_with fail
        refine (law08_works _).mono ?_
        rintro e z1 ⟨rfl, hz1⟩
        have hfin := bel_trans' HB0.out (bel_trans BY.out hz1) HSZ.out
        go_wp2_with fail
        go_ret
        exact ⟨rfl, hfin⟩
      · obtain ⟨k, rfl⟩ : ∃ k, n = k + 1 := ⟨n - 1, by omega⟩
        have hll := HLn.out
        obtain ⟨b, off, rfl, -, -⟩ := h'.out.2.2.2 (by omega)
        obtain ⟨x, m, hs, x0, x1, bx1, bm1⟩ := h'.out.row BY.out (k := k) (by omega)
        have hkl : k < l.length := by omega
        have hw := (PS.whole_iff _).1 (PS.right_whole hr.out hkl)
        have hen : PS.endOf l = x + m := by
          have e := PS.endOf_pos (l := l) (k := l.length) (by omega) (Nat.le_refl _)
          rw [List.take_length] at e
          have e2 : l.length - 1 = k := by omega
          simp only [e2] at e
          rw [e, hs hkl]
          rfl
        rw [hs hkl] at hw
        obtain ⟨g1, g2, g3⟩ := hw
        dsimp only at g1 g2 g3
        clear hs
        have hne : (((k + 1 : Nat) : Int) == 0) = false := by simp; omega
        have hc1 : ((k + 1 : Nat) : Int) = (k : Int) + 1 := by omega
        rw [hc1] at hne hbig ⊢
        have j0 : (0 : Int) ≤ (k : Int) := by omega
        have j1 : (k : Int) < (k : Int) + 1 := by omega
        have j2 : IntKind.i64.wrap (k : Int) = k := by rw [IntKind.wrap_i64]; omega
        have j3 : k < k + 1 := by omega
        have j4 : IntKind.i64.wrap (x + m) = x + m := by rw [IntKind.wrap_i64]; omega
        have HEN := Lib.hid hen
        have hsrc := fun W (hW : Below w0.heap.size w0 W) => (h'.out.keep hW).src'
        replace hsrc := Lib.hid hsrc
        have KH := fun W (hW : Below w0.heap.size w0 W) => spans_Holes c (x + m) (h'.out.keep hW) (by omega) g3
        rw [← hen, PS.holes_end hr.out (by omega)] at KH
        have hHl := PS.hol_len l (PS.endOf l) l.length
        obtain ⟨H, hH⟩ : ∃ H, PS.holK l (PS.endOf l) l.length = H := ⟨_, rfl⟩
        rw [hH] at KH hHl
        obtain ⟨r, hrr⟩ : ∃ r, H.length = r := ⟨_, rfl⟩
        rw [hrr] at KH hHl
        rw [hen] at KH
        obtain ⟨en, he⟩ : ∃ en, x + m = en := ⟨_, rfl⟩
        rw [he] at KH j4 g3 hen HEN
        have HHq := Lib.hid hH
        have HRR := Lib.hid hrr
        replace KH := Lib.hid KH
        have he' := Lib.hid he
        have g4 : 0 ≤ en := by omega
        clear hen hH hrr hc1 hll
        go_wp2_with fail
        go_quiet (fail)
        go_wp2_with (at_builtin; refine app_list2 rfl (.tmp 100) (.tmp 101) rfl w0.heap.size _ [] rfl (by exact OwnS.keep (OwnS.mono (own_emptyS 2 _ _) BY.out.size) (by repeat (first | exact Below.refl _ _ | assumption | refine bel_drew ?_ | refine bel_drewN ?_ _ | refine bel_alloc ?_ _ | refine bel_set ?_ (by first | (dsimp only; omega) | (simp; done) | (simp; omega)) _ | refine bel_trans ?_ (by assumption)))) (some ⟨b, off, none⟩) (k + 1) c l rfl (hsrc.out _ (by have := BY.out; exact (by repeat (first | exact Below.refl _ _ | assumption | refine bel_drew ?_ | refine bel_drewN ?_ _ | refine bel_alloc ?_ _ | refine bel_set ?_ (by first | (dsimp only; omega) | (simp; done) | (simp; omega)) _ | refine bel_trans ?_ (by assumption))))) (by simp; omega) (Nat.le_trans BY.out.size (by simp)) ?_; intro v1 z1 ho1 hb1 hg1; have hbz := bel_trans' (show Below w0.heap.size w0 _ from (by have := BY.out; exact (by repeat (first | exact Below.refl _ _ | assumption | refine bel_drew ?_ | refine bel_drewN ?_ _ | refine bel_alloc ?_ _ | refine bel_set ?_ (by first | (dsimp only; omega) | (simp; done) | (simp; omega)) _ | refine bel_trans ?_ (by assumption))))) hb1 (Nat.le_refl _); obtain ⟨A4, c4, rfl, s4, q4⟩ := own_val' ho1 h'.out.2.2.1 HLn.out; replace s4 := Lib.hid s4; replace q4 := Lib.hid q4; replace hbz := Lib.hid hbz; clear hg1 hb1 ho1)
        refine (KH.out _ hbz.out).mono ?_
        rintro e z2 ⟨A3, c3, rfl, s3, -, hz2⟩
        replace s4 := Lib.hid (s4.out.keep hz2)
        replace s3 := Lib.hid s3
        have BZ : Below w0.heap.size w0 z2 := bel_trans hbz.out hz2
        replace BZ := Lib.hid BZ
        have jr : (r : Int) ≤ 1000 := by have := HLn.out; omega
        have jr2 : r ≤ 40 := by have := HLn.out; omega
        clear hz2 hbz x0 x1
        go_wp2_with fail
        go_loopw [10, 12] (fun sv i wr => WholeRel z2 l r sv i wr) (fun _ i _ => r - (intOf i).toNat)
        case atStart => exact ⟨0, l, A4, c4, k + 1, Nat.zero_le _, rfl, rfl, s4.out, q4.out, ⟨0, Nat.zero_le _, rfl, by simp [PS.fill]⟩, by omega, Below.refl _ _⟩
        case round =>
          obtain ⟨j, all, Aj, cj, qj, hj, rfl, rfl, sj, capj, stj, hq, hbel⟩ := hrel
          have jj : (0 : Int) ≤ (j : Int) := by omega
          have hra := St.right hr.out stj
          by_cases hlt : (j : Int) < r
          · obtain ⟨b3, o3, rfl, -, -⟩ := s3.out.2.2.2 (by omega)
            obtain ⟨hx, hm2, hs, y0, y1, byx, bym⟩ := s3.out.row hbel (k := j) (by omega)
            have hnx : PS.addB all (hx, hm2) = true ∧ PS.St l (j + 1) (PS.ins all (hx, hm2)) := by
              obtain ⟨k', hk', hl', rfl⟩ := stj
              have hnn := PS.st_next hr.out (l.length - k') k' (by omega) j hl' (by rw [HHq.out, HRR.out]; omega)
              have e : ∀ hh, (PS.holK l (PS.endOf l) l.length)[j]'hh = (hx, hm2) := by rw [HHq.out]; exact hs
              rw [e] at hnn
              exact hnn
            have KA := add_lit hx hm2 (PS.ins all (hx, hm2)) (qj + 1) true sj capj (by omega) ⟨byx, bym⟩ (by unfold PS.addL; rw [if_pos hnx.1]) hnx.1 (by rw [PS.ins_len, sj.1])
            have hst := Lib.hid hnx.2
            generalize PS.ins all (hx, hm2) = all' at *
            replace KA := Lib.hid KA
            clear hs hnx stj sj capj hra
            go_wp2_with fail
            refine KA.out.mono ?_
            rintro e w9 ⟨A9, c9, rfl, s9, q9, g9⟩
            replace s9 := Lib.hid s9
            replace q9 := Lib.hid q9
            go_wp2_with fail
            go_roundw
            case rel => exact ⟨j + 1, all', A9, c9, qj + 1, by omega, by go_num, rfl, s9.out, q9.out, hst.out, by omega, bel_trans hbel g9⟩
            case measure => simp [intOf]; omega
          · have hall : PS.mergeL all = [(0, en)] := by
              obtain ⟨k', hk', hl', rfl⟩ := stj
              rw [PS.st_end hr.out (l.length - k') k' (by omega) (by rw [hl', HHq.out, HRR.out]; omega), PS.merge_fill hr.out (by have := HLn.out; omega), HEN.out]
            have KM : Calls Try.prog 64 #[.slice Aj qj cj] wr (GivesL wr 1 [(0, en)] true) := by
              have := spans_Merge cj sj (by omega)
              unfold mergeV at this
              rw [if_pos hra, hall, hra] at this
              exact this
            have BW : Below w0.heap.size w0 wr := bel_trans BZ.out hbel
            replace KM := Lib.hid KM
            replace BW := Lib.hid BW
            replace hlt : (r : Int) ≤ j := by omega
            clear hall stj sj capj hra hbel
            go_wp2_with fail
            refine KM.out.mono ?_
            rintro e w9 ⟨A9, c9, rfl, s9, -, g9⟩
            replace s9 := Lib.hid s9
            go_wp2_with fail
            refine (K7.out _ _ _ _ _ _ [(0, en)] (s9.out.keep (bel_alloc (Below.refl _ _) _)) (spans_one (by simp) ⟨by simp, by dsimp only; omega, by dsimp only; omega⟩ (by simp [go_sem]) (by simp [go_sem]))).mono ?_
            rintro e wa ⟨rfl, ga⟩
            go_wp2_with fail
            refine (law08_works _).mono ?_
            rintro e wb ⟨rfl, gb⟩
            have hfin := bel_trans' HB0.out (show Below w0.heap.size w0 wb from bel_trans (bel_trans (bel_alloc (bel_trans BW.out g9) _) ga) gb) HSZ.out
            go_wp2_with fail
            go_ret
            exact ⟨rfl, hfin⟩
  · by_cases hp0 : 0 ≤ n0
    · have hp1 : n1 < 0 := by omega
      clear hneg
      by_cases hn0 : n = 0
      · subst hn0
        go_wp2_with fail
        refine (law08_works _).mono ?_
        rintro e z1 ⟨rfl, hz1⟩
        have hfin := bel_trans' HB0.out (bel_trans BY.out hz1) HSZ.out
        go_wp2_with fail
        go_ret
        exact ⟨rfl, hfin⟩
      · obtain ⟨k, rfl⟩ : ∃ k, n = k + 1 := ⟨n - 1, by omega⟩
        have hll := HLn.out
        obtain ⟨b, off, rfl, -, -⟩ := h'.out.2.2.2 (by omega)
        obtain ⟨x, m, hs, x0, x1, bx1, bm1⟩ := h'.out.row BY.out (k := k) (by omega)
        have hkl : k < l.length := by omega
        have hw := (PS.whole_iff _).1 (PS.right_whole hr.out hkl)
        have hen : PS.endOf l = x + m := by
          have e := PS.endOf_pos (l := l) (k := l.length) (by omega) (Nat.le_refl _)
          rw [List.take_length] at e
          have e2 : l.length - 1 = k := by omega
          simp only [e2] at e
          rw [e, hs hkl]
          rfl
        rw [hs hkl] at hw
        obtain ⟨g1, g2, g3⟩ := hw
        dsimp only at g1 g2 g3
        clear hs
        have hne : (((k + 1 : Nat) : Int) == 0) = false := by simp; omega
        have hc1 : ((k + 1 : Nat) : Int) = (k : Int) + 1 := by omega
        rw [hc1] at hne hbig ⊢
        have j0 : (0 : Int) ≤ (k : Int) := by omega
        have j1 : (k : Int) < (k : Int) + 1 := by omega
        have j2 : IntKind.i64.wrap (k : Int) = k := by rw [IntKind.wrap_i64]; omega
        have j3 : k < k + 1 := by omega
        have j4 : IntKind.i64.wrap (x + m) = x + m := by rw [IntKind.wrap_i64]; omega
        have HEN := Lib.hid hen
        have hsrc := fun W (hW : Below w0.heap.size w0 W) => (h'.out.keep hW).src'
        replace hsrc := Lib.hid hsrc
        have KH := fun W (hW : Below w0.heap.size w0 W) => spans_Holes c (x + m) (h'.out.keep hW) (by omega) g3
        rw [← hen, PS.holes_end hr.out (by omega)] at KH
        have hHl := PS.hol_len l (PS.endOf l) l.length
        obtain ⟨H, hH⟩ : ∃ H, PS.holK l (PS.endOf l) l.length = H := ⟨_, rfl⟩
        rw [hH] at KH hHl
        obtain ⟨r, hrr⟩ : ∃ r, H.length = r := ⟨_, rfl⟩
        rw [hrr] at KH hHl
        rw [hen] at KH
        obtain ⟨en, he⟩ : ∃ en, x + m = en := ⟨_, rfl⟩
        rw [he] at KH j4 g3 hen HEN
        have HHq := Lib.hid hH
        have HRR := Lib.hid hrr
        replace KH := Lib.hid KH
        have he' := Lib.hid he
        have g4 : 0 ≤ en := by omega
        clear hen hH hrr hc1 hll
        go_wp2_with fail
        go_quiet (fail)
        go_wp2_with (at_builtin; refine app_list2 rfl (.tmp 100) (.tmp 101) rfl w0.heap.size _ [] rfl (by exact OwnS.keep (OwnS.mono (own_emptyS 2 _ _) BY.out.size) (by repeat (first | exact Below.refl _ _ | assumption | refine bel_drew ?_ | refine bel_drewN ?_ _ | refine bel_alloc ?_ _ | refine bel_set ?_ (by first | (dsimp only; omega) | (simp; done) | (simp; omega)) _ | refine bel_trans ?_ (by assumption)))) (some ⟨b, off, none⟩) (k + 1) c l rfl (hsrc.out _ (by have := BY.out; exact (by repeat (first | exact Below.refl _ _ | assumption | refine bel_drew ?_ | refine bel_drewN ?_ _ | refine bel_alloc ?_ _ | refine bel_set ?_ (by first | (dsimp only; omega) | (simp; done) | (simp; omega)) _ | refine bel_trans ?_ (by assumption))))) (by simp; omega) (Nat.le_trans BY.out.size (by simp)) ?_; intro v1 z1 ho1 hb1 hg1; have hbz := bel_trans' (show Below w0.heap.size w0 _ from (by have := BY.out; exact (by repeat (first | exact Below.refl _ _ | assumption | refine bel_drew ?_ | refine bel_drewN ?_ _ | refine bel_alloc ?_ _ | refine bel_set ?_ (by first | (dsimp only; omega) | (simp; done) | (simp; omega)) _ | refine bel_trans ?_ (by assumption))))) hb1 (Nat.le_refl _); obtain ⟨A4, c4, rfl, s4, q4⟩ := own_val' ho1 h'.out.2.2.1 HLn.out; replace s4 := Lib.hid s4; replace q4 := Lib.hid q4; replace hbz := Lib.hid hbz; clear hg1 hb1 ho1)
        refine (KH.out _ hbz.out).mono ?_
        rintro e z2 ⟨A3, c3, rfl, s3, -, hz2⟩
        replace s4 := Lib.hid (s4.out.keep hz2)
        replace s3 := Lib.hid s3
        have BZ : Below w0.heap.size w0 z2 := bel_trans hbz.out hz2
        replace BZ := Lib.hid BZ
        have jr : (r : Int) ≤ 1000 := by have := HLn.out; omega
        have jr2 : r ≤ 40 := by have := HLn.out; omega
        clear hz2 hbz x0 x1
        go_wp2_with fail
        go_loopw [10, 12] (fun sv i wr => WholeRel z2 l r sv i wr) (fun _ i _ => r - (intOf i).toNat)
        case atStart => exact ⟨0, l, A4, c4, k + 1, Nat.zero_le _, rfl, rfl, s4.out, q4.out, ⟨0, Nat.zero_le _, rfl, by simp [PS.fill]⟩, by omega, Below.refl _ _⟩
        case round =>
          obtain ⟨j, all, Aj, cj, qj, hj, rfl, rfl, sj, capj, stj, hq, hbel⟩ := hrel
          have jj : (0 : Int) ≤ (j : Int) := by omega
          have hra := St.right hr.out stj
          by_cases hlt : (j : Int) < r
          · obtain ⟨b3, o3, rfl, -, -⟩ := s3.out.2.2.2 (by omega)
            obtain ⟨hx, hm2, hs, y0, y1, byx, bym⟩ := s3.out.row hbel (k := j) (by omega)
            have hnx : PS.addB all (hx, hm2) = true ∧ PS.St l (j + 1) (PS.ins all (hx, hm2)) := by
              obtain ⟨k', hk', hl', rfl⟩ := stj
              have hnn := PS.st_next hr.out (l.length - k') k' (by omega) j hl' (by rw [HHq.out, HRR.out]; omega)
              have e : ∀ hh, (PS.holK l (PS.endOf l) l.length)[j]'hh = (hx, hm2) := by rw [HHq.out]; exact hs
              rw [e] at hnn
              exact hnn
            have KA := add_lit hx hm2 (PS.ins all (hx, hm2)) (qj + 1) true sj capj (by omega) ⟨byx, bym⟩ (by unfold PS.addL; rw [if_pos hnx.1]) hnx.1 (by rw [PS.ins_len, sj.1])
            have hst := Lib.hid hnx.2
            generalize PS.ins all (hx, hm2) = all' at *
            replace KA := Lib.hid KA
            clear hs hnx stj sj capj hra
            go_wp2_with fail
            refine KA.out.mono ?_
            rintro e w9 ⟨A9, c9, rfl, s9, q9, g9⟩
            replace s9 := Lib.hid s9
            replace q9 := Lib.hid q9
            go_wp2_with fail
            go_roundw
            case rel => exact ⟨j + 1, all', A9, c9, qj + 1, by omega, by go_num, rfl, s9.out, q9.out, hst.out, by omega, bel_trans hbel g9⟩
            case measure => simp [intOf]; omega
          · have hall : PS.mergeL all = [(0, en)] := by
              obtain ⟨k', hk', hl', rfl⟩ := stj
              rw [PS.st_end hr.out (l.length - k') k' (by omega) (by rw [hl', HHq.out, HRR.out]; omega), PS.merge_fill hr.out (by have := HLn.out; omega), HEN.out]
            have KM : Calls Try.prog 64 #[.slice Aj qj cj] wr (GivesL wr 1 [(0, en)] true) := by
              have := spans_Merge cj sj (by omega)
              unfold mergeV at this
              rw [if_pos hra, hall, hra] at this
              exact this
            have BW : Below w0.heap.size w0 wr := bel_trans BZ.out hbel
            replace KM := Lib.hid KM
            replace BW := Lib.hid BW
            replace hlt : (r : Int) ≤ j := by omega
            clear hall stj sj capj hra hbel
            go_wp2_with fail
            refine KM.out.mono ?_
            rintro e w9 ⟨A9, c9, rfl, s9, -, g9⟩
            replace s9 := Lib.hid s9
            go_wp2_with fail
            refine (K7.out _ _ _ _ _ _ [(0, en)] (s9.out.keep (bel_alloc (Below.refl _ _) _)) (spans_one (by simp) ⟨by simp, by dsimp only; omega, by dsimp only; omega⟩ (by simp [go_sem]) (by simp [go_sem]))).mono ?_
            rintro e wa ⟨rfl, ga⟩
            go_wp2_with fail
            refine (law08_works _).mono ?_
            rintro e wb ⟨rfl, gb⟩
            have hfin := bel_trans' HB0.out (show Below w0.heap.size w0 wb from bel_trans (bel_trans (bel_alloc (bel_trans BW.out g9) _) ga) gb) HSZ.out
            go_wp2_with fail
            go_ret
            exact ⟨rfl, hfin⟩
    · replace hp0 : n0 < 0 := by omega
      clear hneg
      by_cases hn0 : n = 0
      · subst hn0
        go_wp2_with fail
        refine (law08_works _).mono ?_
        rintro e z1 ⟨rfl, hz1⟩
        have hfin := bel_trans' HB0.out (bel_trans BY.out hz1) HSZ.out
        go_wp2_with fail
        go_ret
        exact ⟨rfl, hfin⟩
      · obtain ⟨k, rfl⟩ : ∃ k, n = k + 1 := ⟨n - 1, by omega⟩
        have hll := HLn.out
        obtain ⟨b, off, rfl, -, -⟩ := h'.out.2.2.2 (by omega)
        obtain ⟨x, m, hs, x0, x1, bx1, bm1⟩ := h'.out.row BY.out (k := k) (by omega)
        have hkl : k < l.length := by omega
        have hw := (PS.whole_iff _).1 (PS.right_whole hr.out hkl)
        have hen : PS.endOf l = x + m := by
          have e := PS.endOf_pos (l := l) (k := l.length) (by omega) (Nat.le_refl _)
          rw [List.take_length] at e
          have e2 : l.length - 1 = k := by omega
          simp only [e2] at e
          rw [e, hs hkl]
          rfl
        rw [hs hkl] at hw
        obtain ⟨g1, g2, g3⟩ := hw
        dsimp only at g1 g2 g3
        clear hs
        have hne : (((k + 1 : Nat) : Int) == 0) = false := by simp; omega
        have hc1 : ((k + 1 : Nat) : Int) = (k : Int) + 1 := by omega
        rw [hc1] at hne hbig ⊢
        have j0 : (0 : Int) ≤ (k : Int) := by omega
        have j1 : (k : Int) < (k : Int) + 1 := by omega
        have j2 : IntKind.i64.wrap (k : Int) = k := by rw [IntKind.wrap_i64]; omega
        have j3 : k < k + 1 := by omega
        have j4 : IntKind.i64.wrap (x + m) = x + m := by rw [IntKind.wrap_i64]; omega
        have HEN := Lib.hid hen
        have hsrc := fun W (hW : Below w0.heap.size w0 W) => (h'.out.keep hW).src'
        replace hsrc := Lib.hid hsrc
        have KH := fun W (hW : Below w0.heap.size w0 W) => spans_Holes c (x + m) (h'.out.keep hW) (by omega) g3
        rw [← hen, PS.holes_end hr.out (by omega)] at KH
        have hHl := PS.hol_len l (PS.endOf l) l.length
        obtain ⟨H, hH⟩ : ∃ H, PS.holK l (PS.endOf l) l.length = H := ⟨_, rfl⟩
        rw [hH] at KH hHl
        obtain ⟨r, hrr⟩ : ∃ r, H.length = r := ⟨_, rfl⟩
        rw [hrr] at KH hHl
        rw [hen] at KH
        obtain ⟨en, he⟩ : ∃ en, x + m = en := ⟨_, rfl⟩
        rw [he] at KH j4 g3 hen HEN
        have HHq := Lib.hid hH
        have HRR := Lib.hid hrr
        replace KH := Lib.hid KH
        have he' := Lib.hid he
        have g4 : 0 ≤ en := by omega
        clear hen hH hrr hc1 hll
        go_wp2_with fail
        go_quiet (fail)
        go_wp2_with (at_builtin; refine app_list2 rfl (.tmp 100) (.tmp 101) rfl w0.heap.size _ [] rfl (by exact OwnS.keep (OwnS.mono (own_emptyS 2 _ _) BY.out.size) (by repeat (first | exact Below.refl _ _ | assumption | refine bel_drew ?_ | refine bel_drewN ?_ _ | refine bel_alloc ?_ _ | refine bel_set ?_ (by first | (dsimp only; omega) | (simp; done) | (simp; omega)) _ | refine bel_trans ?_ (by assumption)))) (some ⟨b, off, none⟩) (k + 1) c l rfl (hsrc.out _ (by have := BY.out; exact (by repeat (first | exact Below.refl _ _ | assumption | refine bel_drew ?_ | refine bel_drewN ?_ _ | refine bel_alloc ?_ _ | refine bel_set ?_ (by first | (dsimp only; omega) | (simp; done) | (simp; omega)) _ | refine bel_trans ?_ (by assumption))))) (by simp; omega) (Nat.le_trans BY.out.size (by simp)) ?_; intro v1 z1 ho1 hb1 hg1; have hbz := bel_trans' (show Below w0.heap.size w0 _ from (by have := BY.out; exact (by repeat (first | exact Below.refl _ _ | assumption | refine bel_drew ?_ | refine bel_drewN ?_ _ | refine bel_alloc ?_ _ | refine bel_set ?_ (by first | (dsimp only; omega) | (simp; done) | (simp; omega)) _ | refine bel_trans ?_ (by assumption))))) hb1 (Nat.le_refl _); obtain ⟨A4, c4, rfl, s4, q4⟩ := own_val' ho1 h'.out.2.2.1 HLn.out; replace s4 := Lib.hid s4; replace q4 := Lib.hid q4; replace hbz := Lib.hid hbz; clear hg1 hb1 ho1)
        refine (KH.out _ hbz.out).mono ?_
        rintro e z2 ⟨A3, c3, rfl, s3, -, hz2⟩
        replace s4 := Lib.hid (s4.out.keep hz2)
        replace s3 := Lib.hid s3
        have BZ : Below w0.heap.size w0 z2 := bel_trans hbz.out hz2
        replace BZ := Lib.hid BZ
        have jr : (r : Int) ≤ 1000 := by have := HLn.out; omega
        have jr2 : r ≤ 40 := by have := HLn.out; omega
        clear hz2 hbz x0 x1
        go_wp2_with fail
        go_loopw [10, 12] (fun sv i wr => WholeRel z2 l r sv i wr) (fun _ i _ => r - (intOf i).toNat)
        case atStart => exact ⟨0, l, A4, c4, k + 1, Nat.zero_le _, rfl, rfl, s4.out, q4.out, ⟨0, Nat.zero_le _, rfl, by simp [PS.fill]⟩, by omega, Below.refl _ _⟩
        case round =>
          obtain ⟨j, all, Aj, cj, qj, hj, rfl, rfl, sj, capj, stj, hq, hbel⟩ := hrel
          have jj : (0 : Int) ≤ (j : Int) := by omega
          have hra := St.right hr.out stj
          by_cases hlt : (j : Int) < r
          · obtain ⟨b3, o3, rfl, -, -⟩ := s3.out.2.2.2 (by omega)
            obtain ⟨hx, hm2, hs, y0, y1, byx, bym⟩ := s3.out.row hbel (k := j) (by omega)
            have hnx : PS.addB all (hx, hm2) = true ∧ PS.St l (j + 1) (PS.ins all (hx, hm2)) := by
              obtain ⟨k', hk', hl', rfl⟩ := stj
              have hnn := PS.st_next hr.out (l.length - k') k' (by omega) j hl' (by rw [HHq.out, HRR.out]; omega)
              have e : ∀ hh, (PS.holK l (PS.endOf l) l.length)[j]'hh = (hx, hm2) := by rw [HHq.out]; exact hs
              rw [e] at hnn
              exact hnn
            have KA := add_lit hx hm2 (PS.ins all (hx, hm2)) (qj + 1) true sj capj (by omega) ⟨byx, bym⟩ (by unfold PS.addL; rw [if_pos hnx.1]) hnx.1 (by rw [PS.ins_len, sj.1])
            have hst := Lib.hid hnx.2
            generalize PS.ins all (hx, hm2) = all' at *
            replace KA := Lib.hid KA
            clear hs hnx stj sj capj hra
            go_wp2_with fail
            refine KA.out.mono ?_
            rintro e w9 ⟨A9, c9, rfl, s9, q9, g9⟩
            replace s9 := Lib.hid s9
            replace q9 := Lib.hid q9
            go_wp2_with fail
            go_roundw
            case rel => exact ⟨j + 1, all', A9, c9, qj + 1, by omega, by go_num, rfl, s9.out, q9.out, hst.out, by omega, bel_trans hbel g9⟩
            case measure => simp [intOf]; omega
          · have hall : PS.mergeL all = [(0, en)] := by
              obtain ⟨k', hk', hl', rfl⟩ := stj
              rw [PS.st_end hr.out (l.length - k') k' (by omega) (by rw [hl', HHq.out, HRR.out]; omega), PS.merge_fill hr.out (by have := HLn.out; omega), HEN.out]
            have KM : Calls Try.prog 64 #[.slice Aj qj cj] wr (GivesL wr 1 [(0, en)] true) := by
              have := spans_Merge cj sj (by omega)
              unfold mergeV at this
              rw [if_pos hra, hall, hra] at this
              exact this
            have BW : Below w0.heap.size w0 wr := bel_trans BZ.out hbel
            replace KM := Lib.hid KM
            replace BW := Lib.hid BW
            replace hlt : (r : Int) ≤ j := by omega
            clear hall stj sj capj hra hbel
            go_wp2_with fail
            refine KM.out.mono ?_
            rintro e w9 ⟨A9, c9, rfl, s9, -, g9⟩
            replace s9 := Lib.hid s9
            go_wp2_with fail
            refine (K7.out _ _ _ _ _ _ [(0, en)] (s9.out.keep (bel_alloc (Below.refl _ _) _)) (spans_one (by simp) ⟨by simp, by dsimp only; omega, by dsimp only; omega⟩ (by simp [go_sem]) (by simp [go_sem]))).mono ?_
            rintro e wa ⟨rfl, ga⟩
            go_wp2_with fail
            refine (law08_works _).mono ?_
            rintro e wb ⟨rfl, gb⟩
            have hfin := bel_trans' HB0.out (show Below w0.heap.size w0 wb from bel_trans (bel_trans (bel_alloc (bel_trans BW.out g9) _) ga) gb) HSZ.out
            go_wp2_with fail
            go_ret
            exact ⟨rfl, hfin⟩

theorem law08_SpansWhole (A : Option Addr) (n c : Nat) (l : List PS.Sp) (n0 n1 : Int) (w : World) (h : SpansAt w A n l) (hc : CapOk A n c) (h0 : -9223372036854775808 ≤ n0 ∧ n0 ≤ 9223372036854775807) (h1 : -9223372036854775808 ≤ n1 ∧ n1 ≤ 9223372036854775807) :
    Calls Try.prog 15 #[.slice A n c, .agg #[.int .i64 n0, .int .i64 n1]] w fun e w' => e = .returned (.bool true) ∧ Below w.heap.size w w' := by
  by_cases hn : n ≤ 40
  · rcases hr : PS.right l with _ | _
    · exact law08_Whole_off A n c l n0 n1 w h (.inr hr)
    · exact law08_Whole_on A n c l n0 n1 w h hc hn h0 h1 hr
  · exact law08_Whole_off A n c l n0 n1 w h (.inl (by omega))
end Go.Proofs.Ytfgfnfjeopjbgaa
