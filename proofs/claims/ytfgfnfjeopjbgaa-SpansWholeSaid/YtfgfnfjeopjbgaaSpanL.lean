/-
  Layer 8 (spans): the reference's Add and Drop.
-/
import Derived.Test.YtfgfnfjeopjbgaaSpanK
namespace Go.Proofs.Ytfgfnfjeopjbgaa
open Go.RowKit
set_option linter.unusedVariables false
set_option linter.unusedSimpArgs false
attribute [local go_sem] drewN_alloc drewN_setCell

theorem ref08_Add_wrong {A : Option Addr} {n : Nat} {l : List PS.Sp} (c : Nat) (x m : Int) {w : World} (h : SpansAt w A n l) (hx : -9223372036854775808 ≤ x ∧ x ≤ 9223372036854775807) (hm : -9223372036854775808 ≤ m ∧ m ≤ 9223372036854775807) (hr : PS.right l = false ∨ PS.whole (x, m) = false) :
    Calls Try.prog 29 #[.slice A n c, .agg #[.int .i64 x, .int .i64 m]] w (GivesS w [] false) := by
  have K := ref08_Right c (h.keep (bel_alloc (Below.refl _ _) (.cells #[.int .i64 x, .int .i64 m] 37)))
  have K2 := fun W => ref08_One x m W hx hm
  have HG := fun w' (h : Below w.heap.size w w') => GivesS.no h
  replace HG := Lib.hid HG
  replace K2 := Lib.hid K2
  clear h hx hm
  rcases hb : PS.right l with _ | _
  · rw [hb] at K
    replace K := Lib.hid K
    clear hr hb
    go_enter Try.func29, Try.ntmps29
    go_wp2_with fail
    refine K.out.mono ?_
    rintro e w5 ⟨rfl, h5⟩
    go_wp2_with fail
    go_ret2
    exact HG.out _ (by repeat (first | exact Below.refl _ _ | assumption | refine bel_drew ?_ | refine bel_drewN ?_ _ | refine bel_alloc ?_ _ | refine bel_set ?_ (by first | (dsimp only; omega) | (simp; done) | (simp; omega)) _ | refine bel_trans ?_ (by assumption)))
  · rw [hb] at K
    replace K := Lib.hid K
    have hw : PS.whole (x, m) = false := hr.resolve_left (by rw [hb]; simp)
    have K3 := K2.out
    rw [hw] at K3
    replace K3 := Lib.hid K3
    clear hr hb hw K2
    go_enter Try.func29, Try.ntmps29
    go_wp2_with fail
    refine K.out.mono ?_
    rintro e w5 ⟨rfl, h5⟩
    have z5 : w.heap.size < w5.heap.size := by have := h5.size; simp at this; omega
    have q0 := cell_after (a := ⟨w.heap.size, 0, none⟩) (v := .int .i64 x) h5 (by simp) (by simp [go_sem])
    have q1 := cell_after (a := ⟨w.heap.size, 1, none⟩) (v := .int .i64 m) h5 (by simp) (by simp [go_sem])
    go_wp2_with fail
    refine (K3.out _).mono ?_
    rintro e w6 ⟨rfl, rfl⟩
    go_wp2_with fail
    go_ret2
    exact HG.out _ (by repeat (first | exact Below.refl _ _ | assumption | refine bel_drew ?_ | refine bel_drewN ?_ _ | refine bel_alloc ?_ _ | refine bel_set ?_ (by first | (dsimp only; omega) | (simp; done) | (simp; omega)) _ | refine bel_trans ?_ (by assumption)))

def RAddRel (w0 : World) (l : List PS.Sp) (s : PS.Sp) (n : Nat) (out done i : Value) (wr : World) : Prop :=
  ∃ k : Nat, k ≤ n ∧ i = .int .i64 k ∧ done = .bool (decide (PS.pos l s.1 < k)) ∧ OwnS w0.heap.size wr out (PS.insK l s k) ∧
    (∀ j, j < k → ∀ (hj : j < l.length), PS.meet l[j] s = false) ∧ Below w0.heap.size w0 wr

set_option maxRecDepth 100000 in
set_option maxHeartbeats 16000000 in
theorem ref08_Add_some (b off n c : Nat) (l : List PS.Sp) (x m : Int) (w : World) (h : SpansAt w (some ⟨b, off, none⟩) n l) (hn : n ≤ 1000)
    (hx : -9223372036854775808 ≤ x ∧ x ≤ 9223372036854775807) (hm : -9223372036854775808 ≤ m ∧ m ≤ 9223372036854775807) (hr : PS.right l = true) (hw : PS.whole (x, m) = true) :
    Calls Try.prog 29 #[.slice (some ⟨b, off, none⟩) n c, .agg #[.int .i64 x, .int .i64 m]] w (GivesS w (PS.addL l (x, m)) (PS.addB l (x, m))) := by
  obtain ⟨w0, hw0⟩ : ∃ w0, w.alloc (.cells #[.int .i64 x, .int .i64 m] 37) = w0 := ⟨_, rfl⟩
  have hB0 : Below w.heap.size w w0 := by rw [← hw0]; exact bel_alloc (Below.refl _ _) _
  have d0 : w0.cell? ⟨w.heap.size, 0, none⟩ = some (.int .i64 x) := by rw [← hw0]; simp [go_sem]
  have d1 : w0.cell? ⟨w.heap.size, 1, none⟩ = some (.int .i64 m) := by rw [← hw0]; simp [go_sem]
  have ds : w.heap.size < w0.heap.size := by rw [← hw0]; simp
  have h' := h.keep hB0
  have K := ref08_Right c h'
  rw [hr] at K
  have K2 := fun W => ref08_One x m W hx hm
  rw [hw] at K2
  have HLn := h.1
  have hpl : PS.pos l x ≤ l.length := PS.pos_le l x
  have hsp := PS.split_pos hr x
  have HG := fun w' (h : Below w.heap.size w w') => GivesS.no h
  obtain ⟨RL, hRL⟩ : ∃ RL, PS.addL l (x, m) = RL := ⟨_, rfl⟩
  obtain ⟨RB, hRB⟩ : ∃ RB, PS.addB l (x, m) = RB := ⟨_, rfl⟩
  rw [hRL, hRB]
  have H' := Lib.hid h'
  replace K := Lib.hid K
  replace K2 := Lib.hid K2
  replace HG := Lib.hid HG
  replace hRL := Lib.hid hRL
  replace hRB := Lib.hid hRB
  replace hr := Lib.hid hr
  replace hw := Lib.hid hw
  replace hsp := Lib.hid hsp
  replace HLn := Lib.hid HLn
  replace hpl := Lib.hid hpl
  have HB0 := Lib.hid hB0
  replace hw0 := Lib.hid hw0
  have HSZ : Hid (w.heap.size ≤ w0.heap.size) := Lib.hid (by omega)
  obtain ⟨bs, hbs⟩ : ∃ bs, w.heap.size = bs := ⟨_, rfl⟩
  have D0 : Hid (w0.cell? ⟨bs, 0, none⟩ = some (.int .i64 x)) := Lib.hid (by rw [← hbs]; exact d0)
  have D1 : Hid (w0.cell? ⟨bs, 1, none⟩ = some (.int .i64 m)) := Lib.hid (by rw [← hbs]; exact d1)
  have DS : Hid (bs < w0.heap.size) := Lib.hid (by rw [← hbs]; exact ds)
  have HYES : Hid (∀ v w', PS.anyMeet l (x, m) = false → OwnS w0.heap.size w' v (PS.ins l (x, m)) → Below w0.heap.size w0 w' → GivesS w RL RB (.returned (.tuple #[v, .bool true])) w') := Lib.hid (fun v w' ha ho hb => by
    have e : PS.addB l (x, m) = true := by unfold PS.addB; rw [hr.out, hw.out, ha]; rfl
    rw [← hRL.out, ← hRB.out]
    unfold PS.addL
    rw [if_pos e, e]
    exact ⟨v, rfl, ho.mono HSZ.out, bel_trans' HB0.out hb HSZ.out⟩)
  have HNO : Hid (∀ w', PS.anyMeet l (x, m) = true → Below w0.heap.size w0 w' → GivesS w RL RB (.returned (.tuple #[.slice none 0 0, .bool false])) w') := Lib.hid (fun w' ha hb => by
    have e : PS.addB l (x, m) = false := by unfold PS.addB; rw [ha]; simp
    rw [← hRL.out, ← hRB.out]
    unfold PS.addL
    rw [if_neg (by rw [e]; simp), e]
    exact GivesS.no (bel_trans' HB0.out hb HSZ.out))
  replace hbs := Lib.hid hbs
  clear h h' hB0 d0 d1 ds
  go_enter Try.func29, Try.ntmps29
  go_wp2_with fail
  rw [hw0.out]
  refine K.out.mono ?_
  rintro e w1 ⟨rfl, h1⟩
  rw [hbs.out]
  have a0 := cell_after h1 DS.out D0.out
  have a1 := cell_after h1 DS.out D1.out
  go_wp2_with fail
  refine (K2.out _).mono ?_
  rintro e w2 ⟨rfl, rfl⟩
  have z1 : bs < w1.heap.size := Nat.lt_of_lt_of_le DS.out h1.size
  go_wp2_with fail
  go_loopw [6, 7, 8] (fun out done i wr => RAddRel w0 l (x, m) n out done i wr) (fun _ _ i _ => n - (intOf i).toNat)
  case atStart => exact ⟨0, Nat.zero_le _, rfl, rfl, OwnS.nil _ _, fun j hj => absurd hj (by omega), (by repeat (first | exact Below.refl _ _ | assumption | refine bel_drew ?_ | refine bel_drewN ?_ _ | refine bel_alloc ?_ _ | refine bel_set ?_ (by first | (dsimp only; omega) | (simp; done) | (simp; omega)) _ | refine bel_trans ?_ (by assumption)))⟩
  case round =>
    obtain ⟨k, hk, rfl, rfl, hown, hpre, hbel⟩ := hrel
    have j1 : (0 : Int) ≤ (k : Int) := by omega
    dsimp only
    have HO : Hid (∀ W, Below wr.heap.size wr W → OwnS w0.heap.size W _ (PS.insK l (x, m) k)) := Lib.hid (fun W hW => hown.keep hW)
    have HBS : Hid (∀ W, Below wr.heap.size wr W → w0.heap.size ≤ W.heap.size) := Lib.hid (fun W hW => Nat.le_trans hbel.size hW.size)
    have HLEN : Hid ((PS.insK l (x, m) k).length + 2 ≤ 1048576) := Lib.hid (by have := PS.insK_len l (x, m) k (by have := HLn.out; omega); omega)
    replace hown := Lib.hid hown
    have hpre' := Lib.hid hpre
    clear hpre
    by_cases hlt : (k : Int) < n
    · have hkl : k < l.length := by have := HLn.out; omega
      obtain ⟨y, q, hs, x0, x1, by1, bq1⟩ := H'.out.row hbel (k := k) (by omega)
      have RI : Hid (∀ w', Below w0.heap.size w0 w' → w'.cell? ⟨b, off + k * 2, none⟩ = some (.int .i64 y) ∧ w'.cell? ⟨b, off + k * 2 + 1, none⟩ = some (.int .i64 q)) := Lib.hid (fun w' hb' => by
        obtain ⟨y', q', hs', z0, z1, -, -⟩ := H'.out.row hb' (k := k) (by omega)
        have e := (hs' hkl).symm.trans (hs hkl)
        obtain ⟨rfl, rfl⟩ := Prod.mk.inj e
        exact ⟨z0, z1⟩)
      have KS : ∀ w', Below w0.heap.size w0 w' → (Below w0.heap.size w0 w' ∧ w'.cell? ⟨bs, 0, none⟩ = some (.int .i64 x) ∧ w'.cell? ⟨bs, 1, none⟩ = some (.int .i64 m) ∧ w'.cell? ⟨b, off + k * 2, none⟩ = some (.int .i64 y) ∧ w'.cell? ⟨b, off + k * 2 + 1, none⟩ = some (.int .i64 q)) := fun w' hb' => ⟨hb', cell_after hb' DS.out D0.out, cell_after hb' DS.out D1.out, (RI.out w' hb').1, (RI.out w' hb').2⟩
      replace KS := Lib.hid KS
      have M := fun W => ref08_Meet (y, q) (x, m) W ⟨by1, bq1⟩ ⟨hx, hm⟩
      unfold spV at M
      dsimp only at M
      rcases hm1 : PS.meet (y, q) (x, m) with _ | _
      · rw [hm1] at M
        replace M := Lib.hid M
        have HM : Hid (∀ j, j < k + 1 → ∀ (hj : j < l.length), PS.meet l[j] (x, m) = false) := Lib.hid (fun j hj hjl => by
          by_cases e : j = k
          · subst e; rw [hs hjl]; exact hm1
          · exact hpre'.out j (by omega) hjl)
        by_cases hcase : k < PS.pos l x
        · have hd : decide (PS.pos l x < k) = false := decide_eq_false (by omega)
          have hlt1 : y < x := by
            have := hsp.out.1 k (by omega) hkl
            rw [hs hkl] at this
            exact this
          have hy : y ≤ x := by omega
          have hst := PS.insK_lt (s := (x, m)) hkl hcase
          rw [hs hkl] at hst
          have hst' := Lib.hid hst
          have hd' : decide (PS.pos l x < k + 1) = false := decide_eq_false (by omega)
          have HD' := Lib.hid hd'
          rw [hd]
          clear hst hd hd' hcase hs
          go_wp2_with fail
          refine wp_region_held_drew (S := (fun w' => Below w0.heap.size w0 w' ∧ w'.cell? ⟨bs, 0, none⟩ = some (.int .i64 x) ∧ w'.cell? ⟨bs, 1, none⟩ = some (.int .i64 m) ∧ w'.cell? ⟨b, off + k * 2, none⟩ = some (.int .i64 y) ∧ w'.cell? ⟨b, off + k * 2 + 1, none⟩ = some (.int .i64 q))) (by kernel_rfl) ?_ (fun hHeld => ?_)
          focus ((try dsimp only); exact KS.out _ (by repeat (first | exact Below.refl _ _ | assumption | refine bel_drew ?_ | refine bel_drewN ?_ _ | refine bel_alloc ?_ _ | refine bel_set ?_ (by first | (dsimp only; omega) | (simp; done) | (simp; omega)) _ | refine bel_trans ?_ (by assumption))))
          refine tk_yes 0 (v := ?_) rfl (by kernel_rfl) (by kernel_rfl) (by kernel_rfl) (fun _ _ _ h => h) (by kernel_rfl) (by assumption) ?_ ?_; rotate_left; (focus (intro w hSw; (try dsimp only at hSw); go_simp; (first | done | (with_reducible rfl)))); (try simp only [Act.put, List.setIfInBounds_toArray, List.set_cons_zero, List.set_cons_succ])
          refine tk_yes 1 (v := ?_) rfl (by kernel_rfl) (by kernel_rfl) (by kernel_rfl) (fun _ _ _ h => h) (by kernel_rfl) (by assumption) ?_ ?_; rotate_left; (focus (intro w hSw; (try dsimp only at hSw); go_simp; (first | done | (with_reducible rfl)))); (try simp only [Act.put, List.setIfInBounds_toArray, List.set_cons_zero, List.set_cons_succ])
          refine tk_yes 2 (v := ?_) rfl (by kernel_rfl) (by kernel_rfl) (by kernel_rfl) (fun _ _ _ h => h) (by kernel_rfl) (by assumption) ?_ ?_; rotate_left; (focus (intro w hSw; (try dsimp only at hSw); go_simp; (first | done | (with_reducible rfl)))); (try simp only [Act.put, List.setIfInBounds_toArray, List.set_cons_zero, List.set_cons_succ])
          refine tk_yes 3 (v := ?_) rfl (by kernel_rfl) (by kernel_rfl) (by kernel_rfl) (fun _ _ _ h => h) (by kernel_rfl) (by assumption) ?_ ?_; rotate_left; (focus (intro w hSw; (try dsimp only at hSw); go_simp; (first | done | (with_reducible rfl)))); (try simp only [Act.put, List.setIfInBounds_toArray, List.set_cons_zero, List.set_cons_succ])
          refine tk_yes 4 (v := ?_) rfl (by kernel_rfl) (by kernel_rfl) (by kernel_rfl) (fun _ _ _ h => h) (by kernel_rfl) (by assumption) ?_ ?_; rotate_left; (focus (intro w hSw; (try dsimp only at hSw); go_simp; (first | done | (with_reducible rfl)))); (try simp only [Act.put, List.setIfInBounds_toArray, List.set_cons_zero, List.set_cons_succ])
          refine tk_call 5 rfl (by kernel_rfl) (by kernel_rfl) (fun KW hKW => ?_); go_simp; go_at_call 36; refine (M.out _).mono ?_; rintro e w6 ⟨rfl, h6⟩; dsimp only; refine hKW.out _ _ ?_ (fun hHeld => ?_); (focus ((try dsimp only); exact KS.out _ (by repeat (first | exact Below.refl _ _ | assumption | refine bel_drew ?_ | refine bel_drewN ?_ _ | refine bel_alloc ?_ _ | refine bel_set ?_ (by first | (dsimp only; omega) | (simp; done) | (simp; omega)) _ | refine bel_trans ?_ (by assumption))))); clear hKW KW; (try simp only [Act.put, List.setIfInBounds_toArray, List.set_cons_zero, List.set_cons_succ])
          refine wpAnyH_done (by kernel_rfl) ?_ _
          go_wp2_with fail
          go_quiet (fail)
          go_wp2_with (at_builtin; refine app_list rfl (.tmp 45) (.tmp 50) rfl w0.heap.size _ (PS.insK l (x, m) k) rfl (HO.out _ (by repeat (first | exact Below.refl _ _ | assumption | refine bel_drew ?_ | refine bel_drewN ?_ _ | refine bel_alloc ?_ _ | refine bel_set ?_ (by first | (dsimp only; omega) | (simp; done) | (simp; omega)) _ | refine bel_trans ?_ (by assumption)))) (some ⟨_, 0, none⟩) 1 1 [(y, q)] rfl (src_one (by simp [go_sem]) (by simp [go_sem])) (by have := HLEN.out; omega) (HBS.out _ (by repeat (first | exact Below.refl _ _ | assumption | refine bel_drew ?_ | refine bel_drewN ?_ _ | refine bel_alloc ?_ _ | refine bel_set ?_ (by first | (dsimp only; omega) | (simp; done) | (simp; omega)) _ | refine bel_trans ?_ (by assumption)))) ?_; intro v2 x2 ho2 hb2; replace ho2 := Lib.hid ho2; have hb2' := bel_trans' (show Below w0.heap.size w0 _ from (by repeat (first | exact Below.refl _ _ | assumption | refine bel_drew ?_ | refine bel_drewN ?_ _ | refine bel_alloc ?_ _ | refine bel_set ?_ (by first | (dsimp only; omega) | (simp; done) | (simp; omega)) _ | refine bel_trans ?_ (by assumption)))) hb2 (Nat.le_refl _))
          go_roundw
          case rel => exact ⟨k + 1, by omega, by go_num, by rw [HD'.out], hst'.out ▸ ho2.out, HM.out, hb2'⟩
          case measure => simp [intOf]; omega
        · by_cases hcase : k = PS.pos l x
          · have hd : decide (PS.pos l x < k) = false := decide_eq_false (by omega)
            have hy : x < y := by
              have h1 := hsp.out.2 k (by omega) hkl
              have h2 := PS.noeq hr.out hw.out hkl (by rw [hs hkl]; exact hm1)
              rw [hs hkl] at h1 h2
              dsimp only at h1 h2
              omega
            have hst := PS.insK_eq (s := (x, m)) hkl hcase
            rw [hs hkl] at hst
            have hst' := Lib.hid hst
            have hd' : decide (PS.pos l x < k + 1) = true := decide_eq_true (by omega)
            have HD' := Lib.hid hd'
            rw [hd]
            clear hst hd hd' hcase hs
            go_wp2_with fail
            refine wp_region_held_drew (S := (fun w' => Below w0.heap.size w0 w' ∧ w'.cell? ⟨bs, 0, none⟩ = some (.int .i64 x) ∧ w'.cell? ⟨bs, 1, none⟩ = some (.int .i64 m) ∧ w'.cell? ⟨b, off + k * 2, none⟩ = some (.int .i64 y) ∧ w'.cell? ⟨b, off + k * 2 + 1, none⟩ = some (.int .i64 q))) (by kernel_rfl) ?_ (fun hHeld => ?_)
            focus ((try dsimp only); exact KS.out _ (by repeat (first | exact Below.refl _ _ | assumption | refine bel_drew ?_ | refine bel_drewN ?_ _ | refine bel_alloc ?_ _ | refine bel_set ?_ (by first | (dsimp only; omega) | (simp; done) | (simp; omega)) _ | refine bel_trans ?_ (by assumption))))
            refine tk_yes 0 (v := ?_) rfl (by kernel_rfl) (by kernel_rfl) (by kernel_rfl) (fun _ _ _ h => h) (by kernel_rfl) (by assumption) ?_ ?_; rotate_left; (focus (intro w hSw; (try dsimp only at hSw); go_simp; (first | done | (with_reducible rfl)))); (try simp only [Act.put, List.setIfInBounds_toArray, List.set_cons_zero, List.set_cons_succ])
            refine tk_yes 1 (v := ?_) rfl (by kernel_rfl) (by kernel_rfl) (by kernel_rfl) (fun _ _ _ h => h) (by kernel_rfl) (by assumption) ?_ ?_; rotate_left; (focus (intro w hSw; (try dsimp only at hSw); go_simp; (first | done | (with_reducible rfl)))); (try simp only [Act.put, List.setIfInBounds_toArray, List.set_cons_zero, List.set_cons_succ])
            refine tk_yes 2 (v := ?_) rfl (by kernel_rfl) (by kernel_rfl) (by kernel_rfl) (fun _ _ _ h => h) (by kernel_rfl) (by assumption) ?_ ?_; rotate_left; (focus (intro w hSw; (try dsimp only at hSw); go_simp; (first | done | (with_reducible rfl)))); (try simp only [Act.put, List.setIfInBounds_toArray, List.set_cons_zero, List.set_cons_succ])
            refine tk_yes 3 (v := ?_) rfl (by kernel_rfl) (by kernel_rfl) (by kernel_rfl) (fun _ _ _ h => h) (by kernel_rfl) (by assumption) ?_ ?_; rotate_left; (focus (intro w hSw; (try dsimp only at hSw); go_simp; (first | done | (with_reducible rfl)))); (try simp only [Act.put, List.setIfInBounds_toArray, List.set_cons_zero, List.set_cons_succ])
            refine tk_yes 4 (v := ?_) rfl (by kernel_rfl) (by kernel_rfl) (by kernel_rfl) (fun _ _ _ h => h) (by kernel_rfl) (by assumption) ?_ ?_; rotate_left; (focus (intro w hSw; (try dsimp only at hSw); go_simp; (first | done | (with_reducible rfl)))); (try simp only [Act.put, List.setIfInBounds_toArray, List.set_cons_zero, List.set_cons_succ])
            refine tk_call 5 rfl (by kernel_rfl) (by kernel_rfl) (fun KW hKW => ?_); go_simp; go_at_call 36; refine (M.out _).mono ?_; rintro e w6 ⟨rfl, h6⟩; dsimp only; refine hKW.out _ _ ?_ (fun hHeld => ?_); (focus ((try dsimp only); exact KS.out _ (by repeat (first | exact Below.refl _ _ | assumption | refine bel_drew ?_ | refine bel_drewN ?_ _ | refine bel_alloc ?_ _ | refine bel_set ?_ (by first | (dsimp only; omega) | (simp; done) | (simp; omega)) _ | refine bel_trans ?_ (by assumption))))); clear hKW KW; (try simp only [Act.put, List.setIfInBounds_toArray, List.set_cons_zero, List.set_cons_succ])
            refine wpAnyH_done (by kernel_rfl) ?_ _
            go_wp2_with fail
            go_quiet (fail)
            go_wp2_with (at_builtin; refine app_list rfl (.tmp 41) (.tmp 43) rfl w0.heap.size _ (PS.insK l (x, m) k) rfl (HO.out _ (by repeat (first | exact Below.refl _ _ | assumption | refine bel_drew ?_ | refine bel_drewN ?_ _ | refine bel_alloc ?_ _ | refine bel_set ?_ (by first | (dsimp only; omega) | (simp; done) | (simp; omega)) _ | refine bel_trans ?_ (by assumption)))) (some ⟨_, 0, none⟩) 1 1 [(x, m)] rfl (src_one (by simp [go_sem]) (by simp [go_sem])) (by have := HLEN.out; omega) (HBS.out _ (by repeat (first | exact Below.refl _ _ | assumption | refine bel_drew ?_ | refine bel_drewN ?_ _ | refine bel_alloc ?_ _ | refine bel_set ?_ (by first | (dsimp only; omega) | (simp; done) | (simp; omega)) _ | refine bel_trans ?_ (by assumption)))) ?_; intro v1 x1 ho1 hb1; replace ho1 := Lib.hid ho1; have hb1' := bel_trans' (show Below w0.heap.size w0 _ from (by repeat (first | exact Below.refl _ _ | assumption | refine bel_drew ?_ | refine bel_drewN ?_ _ | refine bel_alloc ?_ _ | refine bel_set ?_ (by first | (dsimp only; omega) | (simp; done) | (simp; omega)) _ | refine bel_trans ?_ (by assumption)))) hb1 (Nat.le_refl _); have y0 := (RI.out _ hb1').1; have y1 := (RI.out _ hb1').2; replace hb1' := Lib.hid hb1'; go_wp2_with (at_builtin; refine app_list rfl (.tmp 45) (.tmp 50) rfl w0.heap.size v1 (PS.insK l (x, m) k ++ [(x, m)]) rfl (OwnS.keep ho1.out (bel_alloc (Below.refl _ _) _)) (some ⟨_, 0, none⟩) 1 1 [(y, q)] rfl (src_one (by simp [go_sem]) (by simp [go_sem])) (by have := HLEN.out; simp only [List.length_append, List.length_cons, List.length_nil]; omega) (Nat.le_trans hb1'.out.size (by simp)) ?_; intro v2 x2 ho2 hb2; replace ho2 := Lib.hid ho2; have hb2' := bel_trans' (bel_trans' hb1'.out (bel_alloc (Below.refl _ _) _) hb1'.out.size) hb2 (Nat.le_refl _)))
            go_roundw
            case rel => exact ⟨k + 1, by omega, by go_num, by rw [HD'.out], hst'.out ▸ ho2.out, HM.out, hb2'⟩
            case measure => simp [intOf]; omega
          · replace hcase : PS.pos l x < k := by omega
            have hd : decide (PS.pos l x < k) = true := decide_eq_true hcase
            have hst := PS.insK_gt (s := (x, m)) hkl hcase
            rw [hs hkl] at hst
            have hst' := Lib.hid hst
            have hd' : decide (PS.pos l x < k + 1) = true := decide_eq_true (by omega)
            have HD' := Lib.hid hd'
            rw [hd]
            clear hst hd hd' hcase hs
            go_wp2_with fail
            refine wp_region_held_drew (S := (fun w' => Below w0.heap.size w0 w' ∧ w'.cell? ⟨bs, 0, none⟩ = some (.int .i64 x) ∧ w'.cell? ⟨bs, 1, none⟩ = some (.int .i64 m) ∧ w'.cell? ⟨b, off + k * 2, none⟩ = some (.int .i64 y) ∧ w'.cell? ⟨b, off + k * 2 + 1, none⟩ = some (.int .i64 q))) (by kernel_rfl) ?_ (fun hHeld => ?_)
            focus ((try dsimp only); exact KS.out _ (by repeat (first | exact Below.refl _ _ | assumption | refine bel_drew ?_ | refine bel_drewN ?_ _ | refine bel_alloc ?_ _ | refine bel_set ?_ (by first | (dsimp only; omega) | (simp; done) | (simp; omega)) _ | refine bel_trans ?_ (by assumption))))
            refine tk_yes 0 (v := ?_) rfl (by kernel_rfl) (by kernel_rfl) (by kernel_rfl) (fun _ _ _ h => h) (by kernel_rfl) (by assumption) ?_ ?_; rotate_left; (focus (intro w hSw; (try dsimp only at hSw); go_simp; (first | done | (with_reducible rfl)))); (try simp only [Act.put, List.setIfInBounds_toArray, List.set_cons_zero, List.set_cons_succ])
            refine tk_yes 1 (v := ?_) rfl (by kernel_rfl) (by kernel_rfl) (by kernel_rfl) (fun _ _ _ h => h) (by kernel_rfl) (by assumption) ?_ ?_; rotate_left; (focus (intro w hSw; (try dsimp only at hSw); go_simp; (first | done | (with_reducible rfl)))); (try simp only [Act.put, List.setIfInBounds_toArray, List.set_cons_zero, List.set_cons_succ])
            refine tk_yes 2 (v := ?_) rfl (by kernel_rfl) (by kernel_rfl) (by kernel_rfl) (fun _ _ _ h => h) (by kernel_rfl) (by assumption) ?_ ?_; rotate_left; (focus (intro w hSw; (try dsimp only at hSw); go_simp; (first | done | (with_reducible rfl)))); (try simp only [Act.put, List.setIfInBounds_toArray, List.set_cons_zero, List.set_cons_succ])
            refine tk_yes 3 (v := ?_) rfl (by kernel_rfl) (by kernel_rfl) (by kernel_rfl) (fun _ _ _ h => h) (by kernel_rfl) (by assumption) ?_ ?_; rotate_left; (focus (intro w hSw; (try dsimp only at hSw); go_simp; (first | done | (with_reducible rfl)))); (try simp only [Act.put, List.setIfInBounds_toArray, List.set_cons_zero, List.set_cons_succ])
            refine tk_yes 4 (v := ?_) rfl (by kernel_rfl) (by kernel_rfl) (by kernel_rfl) (fun _ _ _ h => h) (by kernel_rfl) (by assumption) ?_ ?_; rotate_left; (focus (intro w hSw; (try dsimp only at hSw); go_simp; (first | done | (with_reducible rfl)))); (try simp only [Act.put, List.setIfInBounds_toArray, List.set_cons_zero, List.set_cons_succ])
            refine tk_call 5 rfl (by kernel_rfl) (by kernel_rfl) (fun KW hKW => ?_); go_simp; go_at_call 36; refine (M.out _).mono ?_; rintro e w6 ⟨rfl, h6⟩; dsimp only; refine hKW.out _ _ ?_ (fun hHeld => ?_); (focus ((try dsimp only); exact KS.out _ (by repeat (first | exact Below.refl _ _ | assumption | refine bel_drew ?_ | refine bel_drewN ?_ _ | refine bel_alloc ?_ _ | refine bel_set ?_ (by first | (dsimp only; omega) | (simp; done) | (simp; omega)) _ | refine bel_trans ?_ (by assumption))))); clear hKW KW; (try simp only [Act.put, List.setIfInBounds_toArray, List.set_cons_zero, List.set_cons_succ])
            refine wpAnyH_done (by kernel_rfl) ?_ _
            go_wp2_with fail
            go_quiet (fail)
            go_wp2_with (at_builtin; refine app_list rfl (.tmp 45) (.tmp 50) rfl w0.heap.size _ (PS.insK l (x, m) k) rfl (HO.out _ (by repeat (first | exact Below.refl _ _ | assumption | refine bel_drew ?_ | refine bel_drewN ?_ _ | refine bel_alloc ?_ _ | refine bel_set ?_ (by first | (dsimp only; omega) | (simp; done) | (simp; omega)) _ | refine bel_trans ?_ (by assumption)))) (some ⟨_, 0, none⟩) 1 1 [(y, q)] rfl (src_one (by simp [go_sem]) (by simp [go_sem])) (by have := HLEN.out; omega) (HBS.out _ (by repeat (first | exact Below.refl _ _ | assumption | refine bel_drew ?_ | refine bel_drewN ?_ _ | refine bel_alloc ?_ _ | refine bel_set ?_ (by first | (dsimp only; omega) | (simp; done) | (simp; omega)) _ | refine bel_trans ?_ (by assumption)))) ?_; intro v2 x2 ho2 hb2; replace ho2 := Lib.hid ho2; have hb2' := bel_trans' (show Below w0.heap.size w0 _ from (by repeat (first | exact Below.refl _ _ | assumption | refine bel_drew ?_ | refine bel_drewN ?_ _ | refine bel_alloc ?_ _ | refine bel_set ?_ (by first | (dsimp only; omega) | (simp; done) | (simp; omega)) _ | refine bel_trans ?_ (by assumption)))) hb2 (Nat.le_refl _))
            go_roundw
            case rel => exact ⟨k + 1, by omega, by go_num, by rw [HD'.out], hst'.out ▸ ho2.out, HM.out, hb2'⟩
            case measure => simp [intOf]; omega
      · rw [hm1] at M
        replace M := Lib.hid M
        have HA : PS.anyMeet l (x, m) = true := PS.anyMeet_true hkl (by rw [hs hkl]; exact hm1)
        have HN := fun w' => HNO.out w' HA
        replace HN := Lib.hid HN
        clear HA hs
        go_wp2_with fail
        refine wp_region_held_drew (S := (fun w' => Below w0.heap.size w0 w' ∧ w'.cell? ⟨bs, 0, none⟩ = some (.int .i64 x) ∧ w'.cell? ⟨bs, 1, none⟩ = some (.int .i64 m) ∧ w'.cell? ⟨b, off + k * 2, none⟩ = some (.int .i64 y) ∧ w'.cell? ⟨b, off + k * 2 + 1, none⟩ = some (.int .i64 q))) (by kernel_rfl) ?_ (fun hHeld => ?_)
        focus ((try dsimp only); exact KS.out _ (by repeat (first | exact Below.refl _ _ | assumption | refine bel_drew ?_ | refine bel_drewN ?_ _ | refine bel_alloc ?_ _ | refine bel_set ?_ (by first | (dsimp only; omega) | (simp; done) | (simp; omega)) _ | refine bel_trans ?_ (by assumption))))
        refine tk_yes 0 (v := ?_) rfl (by kernel_rfl) (by kernel_rfl) (by kernel_rfl) (fun _ _ _ h => h) (by kernel_rfl) (by assumption) ?_ ?_; rotate_left; (focus (intro w hSw; (try dsimp only at hSw); go_simp; (first | done | (with_reducible rfl)))); (try simp only [Act.put, List.setIfInBounds_toArray, List.set_cons_zero, List.set_cons_succ])
        refine tk_yes 1 (v := ?_) rfl (by kernel_rfl) (by kernel_rfl) (by kernel_rfl) (fun _ _ _ h => h) (by kernel_rfl) (by assumption) ?_ ?_; rotate_left; (focus (intro w hSw; (try dsimp only at hSw); go_simp; (first | done | (with_reducible rfl)))); (try simp only [Act.put, List.setIfInBounds_toArray, List.set_cons_zero, List.set_cons_succ])
        refine tk_yes 2 (v := ?_) rfl (by kernel_rfl) (by kernel_rfl) (by kernel_rfl) (fun _ _ _ h => h) (by kernel_rfl) (by assumption) ?_ ?_; rotate_left; (focus (intro w hSw; (try dsimp only at hSw); go_simp; (first | done | (with_reducible rfl)))); (try simp only [Act.put, List.setIfInBounds_toArray, List.set_cons_zero, List.set_cons_succ])
        refine tk_yes 3 (v := ?_) rfl (by kernel_rfl) (by kernel_rfl) (by kernel_rfl) (fun _ _ _ h => h) (by kernel_rfl) (by assumption) ?_ ?_; rotate_left; (focus (intro w hSw; (try dsimp only at hSw); go_simp; (first | done | (with_reducible rfl)))); (try simp only [Act.put, List.setIfInBounds_toArray, List.set_cons_zero, List.set_cons_succ])
        refine tk_yes 4 (v := ?_) rfl (by kernel_rfl) (by kernel_rfl) (by kernel_rfl) (fun _ _ _ h => h) (by kernel_rfl) (by assumption) ?_ ?_; rotate_left; (focus (intro w hSw; (try dsimp only at hSw); go_simp; (first | done | (with_reducible rfl)))); (try simp only [Act.put, List.setIfInBounds_toArray, List.set_cons_zero, List.set_cons_succ])
        refine tk_call 5 rfl (by kernel_rfl) (by kernel_rfl) (fun KW hKW => ?_); go_simp; go_at_call 36; refine (M.out _).mono ?_; rintro e w6 ⟨rfl, h6⟩; dsimp only; refine hKW.out _ _ ?_ (fun hHeld => ?_); (focus ((try dsimp only); exact KS.out _ (by repeat (first | exact Below.refl _ _ | assumption | refine bel_drew ?_ | refine bel_drewN ?_ _ | refine bel_alloc ?_ _ | refine bel_set ?_ (by first | (dsimp only; omega) | (simp; done) | (simp; omega)) _ | refine bel_trans ?_ (by assumption))))); clear hKW KW; (try simp only [Act.put, List.setIfInBounds_toArray, List.set_cons_zero, List.set_cons_succ])
        refine wpAnyH_done (by kernel_rfl) ?_ _
        go_wp2_with fail
        go_ret2
        exact HN.out _ (by repeat (first | exact Below.refl _ _ | assumption | refine bel_drew ?_ | refine bel_drewN ?_ _ | refine bel_alloc ?_ _ | refine bel_set ?_ (by first | (dsimp only; omega) | (simp; done) | (simp; omega)) _ | refine bel_trans ?_ (by assumption)))
    · have hkn : k = n := by omega
      have hkl : k = l.length := by have := HLn.out; omega
      have HA : PS.anyMeet l (x, m) = false := PS.anyMeet_false.2 (fun j hj => hpre'.out j (by omega) hj)
      have HY := fun v w' => HYES.out v w' HA
      replace HY := Lib.hid HY
      have hend := PS.insK_end (l := l) (s := (x, m))
      dsimp only at hend
      rw [← hkl] at hend
      have a0 := cell_after hbel DS.out D0.out
      have a1 := cell_after hbel DS.out D1.out
      have zb : bs < wr.heap.size := Nat.lt_of_lt_of_le DS.out hbel.size
      by_cases hps : PS.pos l x < k
      · rw [if_pos hps] at hend
        rw [decide_eq_true hps]
        have hf := HY.out _ _ (hend ▸ hown.out) hbel
        replace hf := Lib.hid hf
        clear hend hps HA hkn hkl
        go_wp2_with fail
        go_ret2
        exact hf.out
      · rw [if_neg hps] at hend
        rw [decide_eq_false hps]
        have HE := Lib.hid hend
        clear hend hps HA hkn hkl
        go_wp2_with (at_builtin; refine app_list rfl (.tmp 54) (.tmp 56) rfl w0.heap.size _ (PS.insK l (x, m) k) rfl (HO.out _ (by repeat (first | exact Below.refl _ _ | assumption | refine bel_drew ?_ | refine bel_drewN ?_ _ | refine bel_alloc ?_ _ | refine bel_set ?_ (by first | (dsimp only; omega) | (simp; done) | (simp; omega)) _ | refine bel_trans ?_ (by assumption)))) (some ⟨_, 0, none⟩) 1 1 [(x, m)] rfl (src_one (by simp [go_sem]) (by simp [go_sem])) (by have := HLEN.out; omega) (HBS.out _ (by repeat (first | exact Below.refl _ _ | assumption | refine bel_drew ?_ | refine bel_drewN ?_ _ | refine bel_alloc ?_ _ | refine bel_set ?_ (by first | (dsimp only; omega) | (simp; done) | (simp; omega)) _ | refine bel_trans ?_ (by assumption)))) ?_; intro v1 x1 ho1 hb1; have hb1' := bel_trans' (show Below w0.heap.size w0 _ from (by repeat (first | exact Below.refl _ _ | assumption | refine bel_drew ?_ | refine bel_drewN ?_ _ | refine bel_alloc ?_ _ | refine bel_set ?_ (by first | (dsimp only; omega) | (simp; done) | (simp; omega)) _ | refine bel_trans ?_ (by assumption)))) hb1 (Nat.le_refl _); have hf := Lib.hid (HY.out _ _ (HE.out ▸ ho1) hb1'); clear ho1 hb1')
        go_ret2
        exact hf.out

set_option maxRecDepth 100000 in
set_option maxHeartbeats 4000000 in
theorem ref08_Add_0 (A : Option Addr) (c : Nat) (l : List PS.Sp) (n : Nat) (h0 : n = 0) (x m : Int) (w : World) (h : SpansAt w A n l) (hn : n ≤ 1000)
    (hx : -9223372036854775808 ≤ x ∧ x ≤ 9223372036854775807) (hm : -9223372036854775808 ≤ m ∧ m ≤ 9223372036854775807) (hr : PS.right l = true) (hw : PS.whole (x, m) = true) :
    Calls Try.prog 29 #[.slice A 0 c, .agg #[.int .i64 x, .int .i64 m]] w (GivesS w (PS.addL l (x, m)) (PS.addB l (x, m))) := by
  subst h0
  obtain ⟨w0, hw0⟩ : ∃ w0, w.alloc (.cells #[.int .i64 x, .int .i64 m] 37) = w0 := ⟨_, rfl⟩
  have hB0 : Below w.heap.size w w0 := by rw [← hw0]; exact bel_alloc (Below.refl _ _) _
  have d0 : w0.cell? ⟨w.heap.size, 0, none⟩ = some (.int .i64 x) := by rw [← hw0]; simp [go_sem]
  have d1 : w0.cell? ⟨w.heap.size, 1, none⟩ = some (.int .i64 m) := by rw [← hw0]; simp [go_sem]
  have ds : w.heap.size < w0.heap.size := by rw [← hw0]; simp
  have h' := h.keep hB0
  have K := ref08_Right c h'
  rw [hr] at K
  have K2 := fun W => ref08_One x m W hx hm
  rw [hw] at K2
  have HLn := h.1
  have hpl : PS.pos l x ≤ l.length := PS.pos_le l x
  have hsp := PS.split_pos hr x
  have HG := fun w' (h : Below w.heap.size w w') => GivesS.no h
  obtain ⟨RL, hRL⟩ : ∃ RL, PS.addL l (x, m) = RL := ⟨_, rfl⟩
  obtain ⟨RB, hRB⟩ : ∃ RB, PS.addB l (x, m) = RB := ⟨_, rfl⟩
  rw [hRL, hRB]
  have H' := Lib.hid h'
  replace K := Lib.hid K
  replace K2 := Lib.hid K2
  replace HG := Lib.hid HG
  replace hRL := Lib.hid hRL
  replace hRB := Lib.hid hRB
  replace hr := Lib.hid hr
  replace hw := Lib.hid hw
  replace hsp := Lib.hid hsp
  replace HLn := Lib.hid HLn
  replace hpl := Lib.hid hpl
  have HB0 := Lib.hid hB0
  replace hw0 := Lib.hid hw0
  have HSZ : Hid (w.heap.size ≤ w0.heap.size) := Lib.hid (by omega)
  obtain ⟨bs, hbs⟩ : ∃ bs, w.heap.size = bs := ⟨_, rfl⟩
  have D0 : Hid (w0.cell? ⟨bs, 0, none⟩ = some (.int .i64 x)) := Lib.hid (by rw [← hbs]; exact d0)
  have D1 : Hid (w0.cell? ⟨bs, 1, none⟩ = some (.int .i64 m)) := Lib.hid (by rw [← hbs]; exact d1)
  have DS : Hid (bs < w0.heap.size) := Lib.hid (by rw [← hbs]; exact ds)
  have HYES : Hid (∀ v w', PS.anyMeet l (x, m) = false → OwnS w0.heap.size w' v (PS.ins l (x, m)) → Below w0.heap.size w0 w' → GivesS w RL RB (.returned (.tuple #[v, .bool true])) w') := Lib.hid (fun v w' ha ho hb => by
    have e : PS.addB l (x, m) = true := by unfold PS.addB; rw [hr.out, hw.out, ha]; rfl
    rw [← hRL.out, ← hRB.out]
    unfold PS.addL
    rw [if_pos e, e]
    exact ⟨v, rfl, ho.mono HSZ.out, bel_trans' HB0.out hb HSZ.out⟩)
  have HNO : Hid (∀ w', PS.anyMeet l (x, m) = true → Below w0.heap.size w0 w' → GivesS w RL RB (.returned (.tuple #[.slice none 0 0, .bool false])) w') := Lib.hid (fun w' ha hb => by
    have e : PS.addB l (x, m) = false := by unfold PS.addB; rw [ha]; simp
    rw [← hRL.out, ← hRB.out]
    unfold PS.addL
    rw [if_neg (by rw [e]; simp), e]
    exact GivesS.no (bel_trans' HB0.out hb HSZ.out))
  replace hbs := Lib.hid hbs
  clear h h' hB0 d0 d1 ds
  go_enter Try.func29, Try.ntmps29
  go_wp2_with fail
  rw [hw0.out]
  refine K.out.mono ?_
  rintro e w1 ⟨rfl, h1⟩
  rw [hbs.out]
  have a0 := cell_after h1 DS.out D0.out
  have a1 := cell_after h1 DS.out D1.out
  go_wp2_with fail
  refine (K2.out _).mono ?_
  rintro e w2 ⟨rfl, rfl⟩
  have z1 : bs < w1.heap.size := Nat.lt_of_lt_of_le DS.out h1.size
  go_wp2_with fail
  refine wp_loop_rounds 1 ?_
  rw [rounds_succ]
  have hl0 : l = [] := List.eq_nil_of_length_eq_zero HLn.out
  have HY := fun v w' => HYES.out v w' (by rw [hl0]; rfl)
  replace HY := Lib.hid HY
  have a0' := cell_alloc (.cells #[.int .i64 x, .int .i64 m] 37) z1 a0
  have a1' := cell_alloc (.cells #[.int .i64 x, .int .i64 m] 37) z1 a1
  have HE : Hid ([] ++ [(x, m)] = PS.ins l (x, m)) := Lib.hid (by subst hl0; rfl)
  clear hl0
  go_wp2_with (at_builtin; refine app_list rfl (.tmp 54) (.tmp 56) rfl w0.heap.size _ [] rfl (OwnS.nil _ _) (some ⟨_, 0, none⟩) 1 1 [(x, m)] rfl (src_one (by simp [go_sem]) (by simp [go_sem])) (by simp) (Nat.le_trans h1.size (by first | (simp; done) | (simp; omega))) ?_; intro v1 x1 ho1 hb1; have hb1' := bel_trans' (show Below w0.heap.size w0 _ from (by repeat (first | exact Below.refl _ _ | assumption | refine bel_drew ?_ | refine bel_drewN ?_ _ | refine bel_alloc ?_ _ | refine bel_set ?_ (by first | (dsimp only; omega) | (simp; done) | (simp; omega)) _ | refine bel_trans ?_ (by assumption)))) hb1 (Nat.le_refl _); have hf := Lib.hid (HY.out _ _ (HE.out ▸ ho1) hb1'); clear ho1 hb1')
  go_ret2
  exact hf.out

theorem ref08_Add {A : Option Addr} {n : Nat} {l : List PS.Sp} (c : Nat) (s : PS.Sp) {w : World} (h : SpansAt w A n l) (hn : n ≤ 1000) (hs : SpBd s) :
    Calls Try.prog 29 #[.slice A n c, spV s] w (GivesS w (PS.addL l s) (PS.addB l s)) := by
  obtain ⟨x, m⟩ := s
  unfold spV
  dsimp only
  by_cases hg : PS.right l = true ∧ PS.whole (x, m) = true
  · by_cases h0 : 0 < n
    · obtain ⟨b, off, rfl, -, -⟩ := h.2.2.2 h0
      exact ref08_Add_some b off n c l x m w h hn hs.1 hs.2 hg.1 hg.2
    · obtain rfl : n = 0 := by omega
      exact ref08_Add_0 A c l 0 rfl x m w h (by omega) hs.1 hs.2 hg.1 hg.2
  · have hb : PS.addB l (x, m) = false := by
      unfold PS.addB
      rcases h1 : PS.right l with _ | _
      · rfl
      · rcases h2 : PS.whole (x, m) with _ | _
        · rfl
        · exact absurd ⟨h1, h2⟩ hg
    have hl : PS.addL l (x, m) = [] := by unfold PS.addL; rw [if_neg (by rw [hb]; simp)]
    rw [hb, hl]
    refine ref08_Add_wrong c x m h hs.1 hs.2 ?_
    rcases h1 : PS.right l with _ | _
    · exact .inl rfl
    · exact .inr (by rcases h2 : PS.whole (x, m) with _ | _; · rfl
                     · exact absurd ⟨h1, h2⟩ hg)
end Go.Proofs.Ytfgfnfjeopjbgaa
