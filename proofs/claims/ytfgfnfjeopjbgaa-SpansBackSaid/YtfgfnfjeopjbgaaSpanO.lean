/-
  The walk of the law SpansBack.
-/
import Derived.Test.YtfgfnfjeopjbgaaSpanN
import Derived.Test.YtfgfnfjeopjbgaaPlainSpans4
namespace Go.Proofs.Ytfgfnfjeopjbgaa
open Go.RowKit
set_option linter.unusedVariables false
set_option linter.unusedSimpArgs false
attribute [local go_sem] drewN_alloc drewN_setCell

/-- What the last lines ask: the gap, and that what fills it can be added. -/
def BackRest (W : World) (A : Option Addr) (n c : Nat) (l : List PS.Sp) (n0 n1 : Int) : Prop :=
  (∀ W', Below W.heap.size W W' → Calls Try.prog 26 #[.slice A n c, .int .i64 n0, .int .i64 n1] W' fun e w' => e = .returned (.int .i64 (PS.gap l n0 n1)) ∧ Below W'.heap.size W' w') ∧
  (0 ≤ PS.gap l n0 n1 → (∀ W', Below W.heap.size W W' → Calls Try.prog 28 #[.slice A n c, .agg #[.int .i64 (PS.gap l n0 n1), .int .i64 n0]] W' (GivesL W' (n + 1) (PS.ins l (PS.gap l n0 n1, n0)) true)) ∧ n0 ≤ n1 - PS.gap l n0 n1 ∧ PS.gap l n0 n1 ≤ n1 ∧ 1 ≤ n0)
theorem back_rest {A : Option Addr} {n c : Nat} {l : List PS.Sp} {n0 n1 : Int} {W : World} (h : SpansAt W A n l) (hc : CapOk A n c) (hn : n ≤ 40) (h0 : -9223372036854775808 ≤ n0 ∧ n0 ≤ 9223372036854775807) (h1 : -9223372036854775808 ≤ n1 ∧ n1 ≤ 9223372036854775807) : BackRest W A n c l n0 n1 := by
  refine ⟨fun W' hW => spans_Gap c n0 n1 (h.keep hW) h0 h1, fun hg => ?_⟩
  obtain ⟨a1, a2, a3, a4⟩ := PS.gap_add hg h1.2
  have hl : PS.addL l (PS.gap l n0 n1, n0) = PS.ins l (PS.gap l n0 n1, n0) := by unfold PS.addL; rw [if_pos a1]
  exact ⟨fun W' hW => add_lit _ _ _ (n + 1) true (h.keep hW) hc (by omega) ⟨⟨by omega, by dsimp only; omega⟩, h0⟩ hl a1 (by rw [PS.ins_len, h.1]), a2, a3, a4⟩

set_option maxRecDepth 100000 in
set_option maxHeartbeats 16000000 in
theorem law08_SpansBack (A : Option Addr) (n c : Nat) (l : List PS.Sp) (x m n0 n1 : Int) (w : World) (h : SpansAt w A n l) (hc : CapOk A n c) (hx : -9223372036854775808 ≤ x ∧ x ≤ 9223372036854775807) (hm : -9223372036854775808 ≤ m ∧ m ≤ 9223372036854775807) (h0 : -9223372036854775808 ≤ n0 ∧ n0 ≤ 9223372036854775807) (h1 : -9223372036854775808 ≤ n1 ∧ n1 ≤ 9223372036854775807) :
    Calls Try.prog 7 #[.slice A n c, .agg #[.int .i64 x, .int .i64 m], .agg #[.int .i64 n0, .int .i64 n1]] w fun e w' => e = .returned (.bool true) ∧ Below w.heap.size w w' := by
  have hn := h.2.1
  by_cases hbig : (40 : Int) < n
  · clear h hc
    go_enter Try.func7, Try.ntmps7
    go_wp2_with fail
    refine (law08_works _).mono ?_
    rintro e w5 ⟨rfl, h5⟩
    go_wp2_with fail
    go_ret
    exact ⟨rfl, (by repeat (first | exact Below.refl _ _ | assumption | refine bel_drew ?_ | refine bel_drewN ?_ _ | refine bel_alloc ?_ _ | refine bel_set ?_ (by first | (dsimp only; omega) | (simp; done) | (simp; omega)) _ | refine bel_trans ?_ (by assumption)))⟩
  · replace hbig : (n : Int) ≤ 40 := by omega
    obtain ⟨w0, hw0⟩ : ∃ w0, (w.alloc (.cells #[.int .i64 x, .int .i64 m] 37)).alloc (.cells #[.int .i64 n0, .int .i64 n1] 31) = w0 := ⟨_, rfl⟩
    have hB0 : Below w.heap.size w w0 := by rw [← hw0]; exact bel_alloc (bel_alloc (Below.refl _ _) _) _
    have d0 : w0.cell? ⟨w.heap.size, 0, none⟩ = some (.int .i64 x) := by rw [← hw0]; simp [go_sem]
    have d1 : w0.cell? ⟨w.heap.size, 1, none⟩ = some (.int .i64 m) := by rw [← hw0]; simp [go_sem]
    have d2 : w0.cell? ⟨w.heap.size + 1, 0, none⟩ = some (.int .i64 n0) := by rw [← hw0]; simp [go_sem]
    have d3 : w0.cell? ⟨w.heap.size + 1, 1, none⟩ = some (.int .i64 n1) := by rw [← hw0]; simp [go_sem]
    have ds : w.heap.size + 1 < w0.heap.size := by rw [← hw0]; simp
    have h' := h.keep hB0
    have hn' : n ≤ 1000 := by omega
    have BR := back_rest (n0 := n0) (n1 := n1) h' hc (by omega) h0 h1
    obtain ⟨bs, hbs⟩ : ∃ bs, w.heap.size = bs := ⟨_, rfl⟩
    obtain ⟨bs2, hbs2⟩ : ∃ bs2, bs + 1 = bs2 := ⟨_, rfl⟩
    have D0 : Hid (w0.cell? ⟨bs, 0, none⟩ = some (.int .i64 x)) := Lib.hid (by rw [← hbs]; exact d0)
    have D1 : Hid (w0.cell? ⟨bs, 1, none⟩ = some (.int .i64 m)) := Lib.hid (by rw [← hbs]; exact d1)
    have D2 : Hid (w0.cell? ⟨bs2, 0, none⟩ = some (.int .i64 n0)) := Lib.hid (by rw [← hbs2, ← hbs]; exact d2)
    have D3 : Hid (w0.cell? ⟨bs2, 1, none⟩ = some (.int .i64 n1)) := Lib.hid (by rw [← hbs2, ← hbs]; exact d3)
    have DS : Hid (bs < w0.heap.size ∧ bs2 < w0.heap.size) := Lib.hid (by rw [← hbs2, ← hbs]; omega)
    have HSZ : Hid (w.heap.size ≤ w0.heap.size) := Lib.hid (by omega)
    replace BR := Lib.hid BR
    have HB0 := Lib.hid hB0
    replace hw0 := Lib.hid hw0
    rcases hok : PS.addB l (x, m) with _ | _
    · have K1 := fun W (hW : Below w0.heap.size w0 W) => add_lit x m [] 0 false (h'.keep hW) hc hn' ⟨hx, hm⟩ (by unfold PS.addL; rw [if_neg (by rw [hok]; simp)]) hok rfl
      replace K1 := Lib.hid K1
      replace hbs := Lib.hid hbs
      replace hbs2 := Lib.hid hbs2
      clear h h' hc hB0 d0 d1 d2 d3 ds hok
      go_enter Try.func7, Try.ntmps7
      go_wp2_with fail
      rw [hw0.out, hbs.out, hbs2.out]
      have E0 := D0.out
      have E1 := D1.out
      refine (K1.out _ (Below.refl _ _)).mono ?_
      rintro e w1 ⟨A1, c1, rfl, -, -, g1⟩
      have E20 := cell_after g1 DS.out.2 D2.out
      have E21 := cell_after g1 DS.out.2 D3.out
      have ZB2 : bs2 < w1.heap.size := Nat.lt_of_lt_of_le DS.out.2 g1.size
      rcases Int.lt_or_le (PS.gap l n0 n1) 0 with hg | hg
      · obtain ⟨G, -⟩ := BR.out
        generalize PS.gap l n0 n1 = gp at *
        replace G := Lib.hid G
        go_wp2_with fail
        refine (G.out _ (by repeat (first | exact Below.refl _ _ | assumption | refine bel_drew ?_ | refine bel_drewN ?_ _ | refine bel_alloc ?_ _ | refine bel_set ?_ (by first | (dsimp only; omega) | (simp; done) | (simp; omega)) _ | refine bel_trans ?_ (by assumption)))).mono ?_
        rintro e z1 ⟨rfl, hz1⟩
        go_wp2_with fail
        refine (law08_works _).mono ?_
        rintro e z2 ⟨rfl, hz2⟩
        have hfin := bel_trans' HB0.out (show Below w0.heap.size w0 z2 from (by repeat (first | exact Below.refl _ _ | assumption | refine bel_drew ?_ | refine bel_drewN ?_ _ | refine bel_alloc ?_ _ | refine bel_set ?_ (by first | (dsimp only; omega) | (simp; done) | (simp; omega)) _ | refine bel_trans ?_ (by assumption)))) HSZ.out
        go_wp2_with fail
        go_ret
        exact ⟨rfl, hfin⟩
      · obtain ⟨G, G2⟩ := BR.out
        obtain ⟨G3, a2, a3, a4⟩ := G2 hg
        generalize PS.ins l (PS.gap l n0 n1, n0) = li at *
        generalize PS.gap l n0 n1 = gp at *
        replace G := Lib.hid G
        replace G3 := Lib.hid G3
        clear G2
        go_wp2_with fail
        refine (G.out _ (by repeat (first | exact Below.refl _ _ | assumption | refine bel_drew ?_ | refine bel_drewN ?_ _ | refine bel_alloc ?_ _ | refine bel_set ?_ (by first | (dsimp only; omega) | (simp; done) | (simp; omega)) _ | refine bel_trans ?_ (by assumption)))).mono ?_
        rintro e z1 ⟨rfl, hz1⟩
        have e20 := cell_after hz1 ZB2 E20
        have e21 := cell_after hz1 ZB2 E21
        have zb1 : bs2 < z1.heap.size := Nat.lt_of_lt_of_le ZB2 hz1.size
        go_wp2_with fail
        refine (G3.out _ (by repeat (first | exact Below.refl _ _ | assumption | refine bel_drew ?_ | refine bel_drewN ?_ _ | refine bel_alloc ?_ _ | refine bel_set ?_ (by first | (dsimp only; omega) | (simp; done) | (simp; omega)) _ | refine bel_trans ?_ (by assumption)))).mono ?_
        rintro e z2 ⟨Az, cz, rfl, -, -, hz2⟩
        have e30 := cell_after hz2 zb1 e20
        have e31 := cell_after hz2 zb1 e21
        go_wp2_with fail
        refine (law08_works _).mono ?_
        rintro e z3 ⟨rfl, hz3⟩
        have hfin := bel_trans' HB0.out (show Below w0.heap.size w0 z3 from (by repeat (first | exact Below.refl _ _ | assumption | refine bel_drew ?_ | refine bel_drewN ?_ _ | refine bel_alloc ?_ _ | refine bel_set ?_ (by first | (dsimp only; omega) | (simp; done) | (simp; omega)) _ | refine bel_trans ?_ (by assumption)))) HSZ.out
        go_wp2_with fail
        go_ret
        exact ⟨rfl, hfin⟩
    · have hl : PS.addL l (x, m) = PS.ins l (x, m) := by unfold PS.addL; rw [if_pos hok]
      have K1 := fun W (hW : Below w0.heap.size w0 W) => add_lit x m (PS.ins l (x, m)) (n + 1) true (h'.keep hW) hc hn' ⟨hx, hm⟩ hl hok (by rw [PS.ins_len, h.1])
      obtain ⟨dl, db⟩ := PS.del_ins hok
      have fi := PS.find_ins hok
      have ri := PS.right_ins hok
      dsimp only at dl db fi
      have hbd := ins_bd h.2.2.1 (s := (x, m)) ⟨hx, hm⟩
      rw [hl] at hbd
      have hpl := PS.pos_le l x
      obtain ⟨k, hk⟩ : ∃ k, PS.pos l x = k := ⟨_, rfl⟩
      rw [hk] at fi hpl
      have hat : ∀ (hh : k < (PS.ins l (x, m)).length), (PS.ins l (x, m))[k] = (x, m) := fun hh => by
        subst hk; exact PS.ins_at (l := l) (s := (x, m)) hh
      have hll := h.1
      have HIL : (PS.ins l (x, m)).length = n + 1 := by rw [PS.ins_len, h.1]
      obtain ⟨L, hL⟩ : ∃ L, PS.ins l (x, m) = L := ⟨_, rfl⟩
      rw [hL] at K1 dl db fi ri hbd hat HIL
      have KD : Hid (∀ W A' c', SpansAt W A' (n + 1) L → CapOk A' (n + 1) c' → Calls Try.prog 30 #[.slice A' (n + 1) c', .int .i64 x] W (GivesL W n l true)) := Lib.hid (fun W A' c' hs hq =>
        (spans_Drop x hs hq (by omega)).mono fun e w' gg => gg.lit (del_bd hs.2.2.1) dl db hll)
      have KF : Hid (∀ W A' c', SpansAt W A' (n + 1) L → Calls Try.prog 22 #[.slice A' (n + 1) c', .int .i64 x] W fun e w' => e = .returned (.int .i64 k) ∧ Below W.heap.size W w') := Lib.hid (fun W A' c' hs => by
        have := spans_Find c' x hs hx.2
        rwa [fi] at this)
      have EQ := eql_span x m x m
      rw [show (x == x && m == m) = true by simp] at EQ
      have hkl : (k : Int) < (n : Int) + 1 := by omega
      have hk0 : (0 : Int) ≤ (k : Int) := by omega
      have hcast : ((n + 1 : Nat) : Int) = (n : Int) + 1 := by omega
      have hdec : decide ((n : Int) + 1 ≤ (k : Int)) = false := decide_eq_false (by omega)
      have hdec2 : decide ((k : Int) < 0) = false := decide_eq_false (by omega)
      have hdec3 : decide (n + 1 ≤ k) = false := decide_eq_false (by omega)
      replace K1 := Lib.hid K1
      replace hat := Lib.hid hat
      replace HIL := Lib.hid HIL
      replace ri := Lib.hid ri
      replace hbs := Lib.hid hbs
      replace hbs2 := Lib.hid hbs2
      have HL' := Lib.hid h'
      clear h h' hc hB0 d0 d1 d2 d3 ds hok hl dl db fi hk hL hbd hcast
      go_enter Try.func7, Try.ntmps7
      go_wp2_with fail
      rw [hw0.out, hbs.out, hbs2.out]
      have E0 := D0.out
      have E1 := D1.out
      refine (K1.out _ (Below.refl _ _)).mono ?_
      rintro e w1 ⟨A1, c1, rfl, s1, q1, g1⟩
      obtain ⟨b1, o1, rfl, hb1, -⟩ := s1.2.2.2 (by omega)
      replace s1 := Lib.hid s1
      replace q1 := Lib.hid q1
      have E10 := cell_after g1 DS.out.1 D0.out
      have E11 := cell_after g1 DS.out.1 D1.out
      have ZB1 : bs < w1.heap.size := Nat.lt_of_lt_of_le DS.out.1 g1.size
      go_wp2_with fail
      refine (KD.out _ _ _ s1.out q1.out).mono ?_
      rintro e w2 ⟨A2, c2, rfl, s2, -, g2⟩
      replace s1 := Lib.hid (s1.out.keep g2)
      replace s2 := Lib.hid s2
      have F10 := cell_after g2 ZB1 E10
      have F11 := cell_after g2 ZB1 E11
      have ZB3 : bs < w2.heap.size := Nat.lt_of_lt_of_le ZB1 g2.size
      go_wp2_with fail
      refine (KF.out _ _ _ s1.out).mono ?_
      rintro e w3 ⟨rfl, g3⟩
      replace s1 := Lib.hid (s1.out.keep g3)
      replace s2 := Lib.hid (s2.out.keep g3)
      have ZB4 : bs < w3.heap.size := Nat.lt_of_lt_of_le ZB3 g3.size
      have P10 := cell_after g3 ZB3 F10
      have P11 := cell_after g3 ZB3 F11
      have B3 : Below w0.heap.size w0 w3 := (by repeat (first | exact Below.refl _ _ | assumption | refine bel_drew ?_ | refine bel_drewN ?_ _ | refine bel_alloc ?_ _ | refine bel_set ?_ (by first | (dsimp only; omega) | (simp; done) | (simp; omega)) _ | refine bel_trans ?_ (by assumption)))
      have KR : Hid (∀ W, Below w3.heap.size w3 W → Calls Try.prog 32 #[.slice (some ⟨b1, o1, none⟩) (n + 1) c1] W fun e w' => e = .returned (.bool true) ∧ Below W.heap.size W w') := Lib.hid (fun W hW => by
        have := spans_Right c1 (s1.out.keep hW)
        rwa [ri.out] at this)
      have KE : Hid (∀ W, Below w3.heap.size w3 W → Calls Try.prog 34 #[.slice A2 n c2, .slice A n c] W fun e w' => e = .returned (.bool true) ∧ Below W.heap.size W w') := Lib.hid (fun W hW => by
        have := base_SameSpans c2 c (s2.out.keep hW) (HL'.out.keep (bel_trans B3 hW))
        rwa [decide_eq_true rfl] at this)
      have KS : Hid (∀ w', Below w3.heap.size w3 w' → (Below w3.heap.size w3 w' ∧ w'.cell? ⟨bs, 0, none⟩ = some (.int .i64 x) ∧ w'.cell? ⟨bs, 1, none⟩ = some (.int .i64 m) ∧ w'.cell? ⟨b1, o1 + k * 2, none⟩ = some (.int .i64 x) ∧ w'.cell? ⟨b1, o1 + k * 2 + 1, none⟩ = some (.int .i64 m))) := Lib.hid (fun w' hb => by
        obtain ⟨y', q', hs', z0, z1, -, -⟩ := s1.out.row hb (k := k) (by omega)
        have e := (hs' (by rw [HIL.out]; omega)).symm.trans (hat.out (by rw [HIL.out]; omega))
        obtain ⟨rfl, rfl⟩ := Prod.mk.inj e
        exact ⟨hb, cell_after hb ZB4 P10, cell_after hb ZB4 P11, z0, z1⟩)
      replace B3 := Lib.hid B3
      clear g1 g2 g3 E10 E11 F10 F11 ZB1 ZB3 hb1
      go_wp2_with fail
      refine wp_region_held_drew (S := (fun w' => Below w3.heap.size w3 w' ∧ w'.cell? ⟨bs, 0, none⟩ = some (.int .i64 x) ∧ w'.cell? ⟨bs, 1, none⟩ = some (.int .i64 m) ∧ w'.cell? ⟨b1, o1 + k * 2, none⟩ = some (.int .i64 x) ∧ w'.cell? ⟨b1, o1 + k * 2 + 1, none⟩ = some (.int .i64 m))) (by kernel_rfl) ?_ (fun hHeld => ?_)
      focus ((try dsimp only); exact KS.out _ (by first | exact Below.refl _ _ | exact bel_drew (Below.refl _ _) | exact bel_trans hHeld.1 (by assumption)))
      refine tk_yes 0 (v := ?_) rfl (by kernel_rfl) (by kernel_rfl) (by kernel_rfl) (fun _ _ _ h => h) (by kernel_rfl) (by assumption) ?_ ?_; rotate_left; (focus (intro w hSw; (try dsimp only at hSw); go_simp; (first | done | (with_reducible rfl)))); (try simp only [Act.put, List.setIfInBounds_toArray, List.set_cons_zero, List.set_cons_succ])
      refine tk_call 1 rfl (by kernel_rfl) (by kernel_rfl) (fun KW hKW => ?_); go_simp; go_at_call 32; refine (KR.out _ hHeld.1).mono ?_; rintro e y1 ⟨rfl, hy1⟩; dsimp only; refine hKW.out _ _ ?_ (fun hHeld => ?_); (focus ((try dsimp only); exact KS.out _ (by first | exact Below.refl _ _ | exact bel_drew (Below.refl _ _) | exact bel_trans hHeld.1 (by assumption)))); clear hKW KW; (try simp only [Act.put, List.setIfInBounds_toArray, List.set_cons_zero, List.set_cons_succ])
      refine tk_yes 2 (v := ?_) rfl (by kernel_rfl) (by kernel_rfl) (by kernel_rfl) (fun _ _ _ h => h) (by kernel_rfl) (by assumption) ?_ ?_; rotate_left; (focus (intro w hSw; (try dsimp only at hSw); go_simp; (first | done | (with_reducible rfl)))); (try simp only [Act.put, List.setIfInBounds_toArray, List.set_cons_zero, List.set_cons_succ])
      refine tk_yes 3 (v := ?_) rfl (by kernel_rfl) (by kernel_rfl) (by kernel_rfl) (fun _ _ _ h => h) (by kernel_rfl) (by assumption) ?_ ?_; rotate_left; (focus (intro w hSw; (try dsimp only at hSw); go_simp; (first | done | (with_reducible rfl)))); (try simp only [Act.put, List.setIfInBounds_toArray, List.set_cons_zero, List.set_cons_succ])
      refine tk_yes 4 (v := ?_) rfl (by kernel_rfl) (by kernel_rfl) (by kernel_rfl) (fun _ _ _ h => h) (by kernel_rfl) (by assumption) ?_ ?_; rotate_left; (focus (intro w hSw; (try dsimp only at hSw); go_simp; (first | done | (with_reducible rfl)))); (try simp only [Act.put, List.setIfInBounds_toArray, List.set_cons_zero, List.set_cons_succ])
      refine tk_yes 5 (v := ?_) rfl (by kernel_rfl) (by kernel_rfl) (by kernel_rfl) (fun _ _ _ h => h) (by kernel_rfl) (by assumption) ?_ ?_; rotate_left; (focus (intro w hSw; (try dsimp only at hSw); go_simp; (first | done | (with_reducible rfl)))); (try simp only [Act.put, List.setIfInBounds_toArray, List.set_cons_zero, List.set_cons_succ])
      refine tk_yes 6 (v := ?_) rfl (by kernel_rfl) (by kernel_rfl) (by kernel_rfl) (fun _ _ _ h => h) (by kernel_rfl) (by assumption) ?_ ?_; rotate_left; (focus (intro w hSw; (try dsimp only at hSw); go_simp; (first | done | (with_reducible rfl)))); (try simp only [Act.put, List.setIfInBounds_toArray, List.set_cons_zero, List.set_cons_succ])
      refine tk_yes 7 (v := ?_) rfl (by kernel_rfl) (by kernel_rfl) (by kernel_rfl) (fun _ _ _ h => h) (by kernel_rfl) (by assumption) ?_ ?_; rotate_left; (focus (intro w hSw; (try dsimp only at hSw); go_simp; (first | done | (with_reducible rfl)))); (try simp only [Act.put, List.setIfInBounds_toArray, List.set_cons_zero, List.set_cons_succ])
      refine tk_yes 8 (v := ?_) rfl (by kernel_rfl) (by kernel_rfl) (by kernel_rfl) (fun _ _ _ h => h) (by kernel_rfl) (by assumption) ?_ ?_; rotate_left; (focus (intro w hSw; (try dsimp only at hSw); go_simp; (first | done | (with_reducible rfl)))); (try simp only [Act.put, List.setIfInBounds_toArray, List.set_cons_zero, List.set_cons_succ])
      refine tk_yes 9 (v := ?_) rfl (by kernel_rfl) (by kernel_rfl) (by kernel_rfl) (fun _ _ _ h => h) (by kernel_rfl) (by assumption) ?_ ?_; rotate_left; (focus (intro w hSw; (try dsimp only at hSw); go_simp; (first | done | (with_reducible rfl)))); (try simp only [Act.put, List.setIfInBounds_toArray, List.set_cons_zero, List.set_cons_succ])
      refine tk_call 10 rfl (by kernel_rfl) (by kernel_rfl) (fun KW hKW => ?_); go_simp; go_at_call 34; refine (KE.out _ hHeld.1).mono ?_; rintro e y2 ⟨rfl, hy2⟩; dsimp only; refine hKW.out _ _ ?_ (fun hHeld => ?_); (focus ((try dsimp only); exact KS.out _ (by first | exact Below.refl _ _ | exact bel_drew (Below.refl _ _) | exact bel_trans hHeld.1 (by assumption)))); clear hKW KW; (try simp only [Act.put, List.setIfInBounds_toArray, List.set_cons_zero, List.set_cons_succ])
      refine tk_yes 11 (v := ?_) rfl (by kernel_rfl) (by kernel_rfl) (by kernel_rfl) (fun _ _ _ h => h) (by kernel_rfl) (by assumption) ?_ ?_; rotate_left; (focus (intro w hSw; (try dsimp only at hSw); go_simp; (first | done | (with_reducible rfl)))); (try simp only [Act.put, List.setIfInBounds_toArray, List.set_cons_zero, List.set_cons_succ])
      refine tk_yes 12 (v := ?_) rfl (by kernel_rfl) (by kernel_rfl) (by kernel_rfl) (fun _ _ _ h => h) (by kernel_rfl) (by assumption) ?_ ?_; rotate_left; (focus (intro w hSw; (try dsimp only at hSw); go_simp; (first | done | (with_reducible rfl)))); (try simp only [Act.put, List.setIfInBounds_toArray, List.set_cons_zero, List.set_cons_succ])
      refine tk_yes 13 (v := ?_) rfl (by kernel_rfl) (by kernel_rfl) (by kernel_rfl) (fun _ _ _ h => h) (by kernel_rfl) (by assumption) ?_ ?_; rotate_left; (focus (intro w hSw; (try dsimp only at hSw); go_simp; (first | done | (with_reducible rfl)))); (try simp only [Act.put, List.setIfInBounds_toArray, List.set_cons_zero, List.set_cons_succ])
      refine tk_yes 14 (v := ?_) rfl (by kernel_rfl) (by kernel_rfl) (by kernel_rfl) (fun _ _ _ h => h) (by kernel_rfl) (by assumption) ?_ ?_; rotate_left; (focus (intro w hSw; (try dsimp only at hSw); go_simp; (first | done | (with_reducible rfl)))); (try simp only [Act.put, List.setIfInBounds_toArray, List.set_cons_zero, List.set_cons_succ])
      refine tk_yes 15 (v := ?_) rfl (by kernel_rfl) (by kernel_rfl) (by kernel_rfl) (fun _ _ _ h => h) (by kernel_rfl) (by assumption) ?_ ?_; rotate_left; (focus (intro w hSw; (try dsimp only at hSw); go_simp; (first | done | (with_reducible rfl)))); (try simp only [Act.put, List.setIfInBounds_toArray, List.set_cons_zero, List.set_cons_succ])
      refine tk_yes 16 (v := ?_) rfl (by kernel_rfl) (by kernel_rfl) (by kernel_rfl) (fun _ _ _ h => h) (by kernel_rfl) (by assumption) ?_ ?_; rotate_left; (focus (intro w hSw; (try dsimp only at hSw); go_simp; (first | done | (with_reducible rfl)))); (try simp only [Act.put, List.setIfInBounds_toArray, List.set_cons_zero, List.set_cons_succ])
      refine tk_yes 17 (v := ?_) rfl (by kernel_rfl) (by kernel_rfl) (by kernel_rfl) (fun _ _ _ h => h) (by kernel_rfl) (by assumption) ?_ ?_; rotate_left; (focus (intro w hSw; (try dsimp only at hSw); go_simp; (first | done | (with_reducible rfl)))); (try simp only [Act.put, List.setIfInBounds_toArray, List.set_cons_zero, List.set_cons_succ])
      refine tk_yes 18 (v := ?_) rfl (by kernel_rfl) (by kernel_rfl) (by kernel_rfl) (fun _ _ _ h => h) (by kernel_rfl) (by assumption) ?_ ?_; rotate_left; (focus (intro w hSw; (try dsimp only at hSw); go_simp; (first | done | (with_reducible rfl)))); (try simp only [Act.put, List.setIfInBounds_toArray, List.set_cons_zero, List.set_cons_succ])
      refine tk_yes 19 (v := ?_) rfl (by kernel_rfl) (by kernel_rfl) (by kernel_rfl) (fun _ _ _ h => h) (by kernel_rfl) (by assumption) ?_ ?_; rotate_left; (focus (intro w hSw; (try dsimp only at hSw); go_simp; (first | done | (with_reducible rfl)))); (try simp only [Act.put, List.setIfInBounds_toArray, List.set_cons_zero, List.set_cons_succ])
      refine tk_yes 20 (v := ?_) rfl (by kernel_rfl) (by kernel_rfl) (by kernel_rfl) (fun _ _ _ h => h) (by kernel_rfl) (by assumption) ?_ ?_; rotate_left; (focus (intro w hSw; (try dsimp only at hSw); go_simp; (first | done | (with_reducible rfl)))); (try simp only [Act.put, List.setIfInBounds_toArray, List.set_cons_zero, List.set_cons_succ])
      refine tk_yes 21 (v := ?_) rfl (by kernel_rfl) (by kernel_rfl) (by kernel_rfl) (fun _ _ _ h => h) (by kernel_rfl) (by assumption) ?_ ?_; rotate_left; (focus (intro w hSw; (try dsimp only at hSw); go_simp; (first | done | (with_reducible rfl)))); (try simp only [Act.put, List.setIfInBounds_toArray, List.set_cons_zero, List.set_cons_succ])
      refine tk_yes 22 (v := ?_) rfl (by kernel_rfl) (by kernel_rfl) (by kernel_rfl) (fun _ _ _ h => h) (by kernel_rfl) (by assumption) ?_ ?_; rotate_left; (focus (intro w hSw; (try dsimp only at hSw); go_simp; (first | done | (with_reducible rfl)))); (try simp only [Act.put, List.setIfInBounds_toArray, List.set_cons_zero, List.set_cons_succ])
      refine tk_yes 23 (v := ?_) rfl (by kernel_rfl) (by kernel_rfl) (by kernel_rfl) (fun _ _ _ h => h) (by kernel_rfl) (by assumption) ?_ ?_; rotate_left; (focus (intro w hSw; (try dsimp only at hSw); go_simp; (first | done | (with_reducible rfl)))); (try simp only [Act.put, List.setIfInBounds_toArray, List.set_cons_zero, List.set_cons_succ])
      refine tk_yes 24 (v := ?_) rfl (by kernel_rfl) (by kernel_rfl) (by kernel_rfl) (fun _ _ _ h => h) (by kernel_rfl) (by assumption) ?_ ?_; rotate_left; (focus (intro w hSw; (try dsimp only at hSw); go_simp; (first | done | (with_reducible rfl)))); (try simp only [Act.put, List.setIfInBounds_toArray, List.set_cons_zero, List.set_cons_succ])
      refine tk_yes 25 (v := ?_) rfl (by kernel_rfl) (by kernel_rfl) (by kernel_rfl) (fun _ _ _ h => h) (by kernel_rfl) (by assumption) ?_ ?_; rotate_left; (focus (intro w hSw; (try dsimp only at hSw); go_simp; (first | done | (with_reducible rfl)))); (try simp only [Act.put, List.setIfInBounds_toArray, List.set_cons_zero, List.set_cons_succ])
      refine tk_yes 26 (v := ?_) rfl (by kernel_rfl) (by kernel_rfl) (by kernel_rfl) (fun _ _ _ h => h) (by kernel_rfl) (by assumption) ?_ ?_; rotate_left; (focus (intro w hSw; (try dsimp only at hSw); go_simp; (first | done | (with_reducible rfl)))); (try simp only [Act.put, List.setIfInBounds_toArray, List.set_cons_zero, List.set_cons_succ])
      refine tk_yes 27 (v := ?_) rfl (by kernel_rfl) (by kernel_rfl) (by kernel_rfl) (fun _ _ _ h => h) (by kernel_rfl) (by assumption) ?_ ?_; rotate_left; (focus (intro w hSw; (try dsimp only at hSw); go_simp; (first | done | (with_reducible rfl)))); (try simp only [Act.put, List.setIfInBounds_toArray, List.set_cons_zero, List.set_cons_succ])
      refine tk_yes 28 (v := ?_) rfl (by kernel_rfl) (by kernel_rfl) (by kernel_rfl) (fun _ _ _ h => h) (by kernel_rfl) (by assumption) ?_ ?_; rotate_left; (focus (intro w hSw; (try dsimp only at hSw); go_simp; (first | done | (with_reducible rfl)))); (try simp only [Act.put, List.setIfInBounds_toArray, List.set_cons_zero, List.set_cons_succ])
      refine tk_yes 29 (v := ?_) rfl (by kernel_rfl) (by kernel_rfl) (by kernel_rfl) (fun _ _ _ h => h) (by kernel_rfl) (by assumption) ?_ ?_; rotate_left; (focus (intro w hSw; (try dsimp only at hSw); go_simp; (first | done | (with_reducible rfl)))); (try simp only [Act.put, List.setIfInBounds_toArray, List.set_cons_zero, List.set_cons_succ])
      refine tk_yes 30 (v := ?_) rfl (by kernel_rfl) (by kernel_rfl) (by kernel_rfl) (fun _ _ _ h => h) (by kernel_rfl) (by assumption) ?_ ?_; rotate_left; (focus (intro w hSw; (try dsimp only at hSw); go_simp; (first | done | (with_reducible rfl)))); (try simp only [Act.put, List.setIfInBounds_toArray, List.set_cons_zero, List.set_cons_succ])
      refine wpAnyH_done (by kernel_rfl) ?_ _
      have B4 := bel_trans B3.out hHeld.1
      have E20 := cell_after B4 DS.out.2 D2.out
      have E21 := cell_after B4 DS.out.2 D3.out
      have ZB2 := Nat.lt_of_lt_of_le DS.out.2 B4.size
      clear hHeld
      rcases Int.lt_or_le (PS.gap l n0 n1) 0 with hg | hg
      · obtain ⟨G, -⟩ := BR.out
        generalize PS.gap l n0 n1 = gp at *
        replace G := Lib.hid G
        go_wp2_with fail
        refine (G.out _ (by repeat (first | exact Below.refl _ _ | assumption | refine bel_drew ?_ | refine bel_drewN ?_ _ | refine bel_alloc ?_ _ | refine bel_set ?_ (by first | (dsimp only; omega) | (simp; done) | (simp; omega)) _ | refine bel_trans ?_ (by assumption)))).mono ?_
        rintro e z1 ⟨rfl, hz1⟩
        go_wp2_with fail
        refine (law08_works _).mono ?_
        rintro e z2 ⟨rfl, hz2⟩
        have hfin := bel_trans' HB0.out (show Below w0.heap.size w0 z2 from (by repeat (first | exact Below.refl _ _ | assumption | refine bel_drew ?_ | refine bel_drewN ?_ _ | refine bel_alloc ?_ _ | refine bel_set ?_ (by first | (dsimp only; omega) | (simp; done) | (simp; omega)) _ | refine bel_trans ?_ (by assumption)))) HSZ.out
        go_wp2_with fail
        go_ret
        exact ⟨rfl, hfin⟩
      · obtain ⟨G, G2⟩ := BR.out
        obtain ⟨G3, a2, a3, a4⟩ := G2 hg
        generalize PS.ins l (PS.gap l n0 n1, n0) = li at *
        generalize PS.gap l n0 n1 = gp at *
        replace G := Lib.hid G
        replace G3 := Lib.hid G3
        clear G2
        go_wp2_with fail
        refine (G.out _ (by repeat (first | exact Below.refl _ _ | assumption | refine bel_drew ?_ | refine bel_drewN ?_ _ | refine bel_alloc ?_ _ | refine bel_set ?_ (by first | (dsimp only; omega) | (simp; done) | (simp; omega)) _ | refine bel_trans ?_ (by assumption)))).mono ?_
        rintro e z1 ⟨rfl, hz1⟩
        have e20 := cell_after hz1 ZB2 E20
        have e21 := cell_after hz1 ZB2 E21
        have zb1 : bs2 < z1.heap.size := Nat.lt_of_lt_of_le ZB2 hz1.size
        go_wp2_with fail
        refine (G3.out _ (by repeat (first | exact Below.refl _ _ | assumption | refine bel_drew ?_ | refine bel_drewN ?_ _ | refine bel_alloc ?_ _ | refine bel_set ?_ (by first | (dsimp only; omega) | (simp; done) | (simp; omega)) _ | refine bel_trans ?_ (by assumption)))).mono ?_
        rintro e z2 ⟨Az, cz, rfl, -, -, hz2⟩
        have e30 := cell_after hz2 zb1 e20
        have e31 := cell_after hz2 zb1 e21
        go_wp2_with fail
        refine (law08_works _).mono ?_
        rintro e z3 ⟨rfl, hz3⟩
        have hfin := bel_trans' HB0.out (show Below w0.heap.size w0 z3 from (by repeat (first | exact Below.refl _ _ | assumption | refine bel_drew ?_ | refine bel_drewN ?_ _ | refine bel_alloc ?_ _ | refine bel_set ?_ (by first | (dsimp only; omega) | (simp; done) | (simp; omega)) _ | refine bel_trans ?_ (by assumption)))) HSZ.out
        go_wp2_with fail
        go_ret
        exact ⟨rfl, hfin⟩
end Go.Proofs.Ytfgfnfjeopjbgaa
