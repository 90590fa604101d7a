/-
  Layer 8 (spans): the reference's Drop.
-/
import Derived.Test.YtfgfnfjeopjbgaaSpanL
namespace Go.Proofs.Ytfgfnfjeopjbgaa
open Go.RowKit
set_option linter.unusedVariables false
set_option linter.unusedSimpArgs false
attribute [local go_sem] drewN_alloc drewN_setCell

def RDropRel (w : World) (l : List PS.Sp) (x : Int) (n : Nat) (out was i : Value) (wr : World) : Prop :=
  ∃ k : Nat, k ≤ n ∧ i = .int .i64 k ∧ was = .bool (PS.hasAt (l.take k) x) ∧ OwnS w.heap.size wr out (PS.fil (l.take k) x) ∧ Below w.heap.size w wr

set_option maxRecDepth 100000 in
set_option maxHeartbeats 8000000 in
theorem ref08_Drop_some (b off n c : Nat) (l : List PS.Sp) (x : Int) (w : World) (h : SpansAt w (some ⟨b, off, none⟩) n l) (hn : n ≤ 1000) :
    Calls Try.prog 31 #[.slice (some ⟨b, off, none⟩) n c, .int .i64 x] w (GivesS w (PS.dropL l x) (PS.dropB l x)) := by
  have HLn := h.1
  have H' := Lib.hid h
  replace HLn := Lib.hid HLn
  obtain ⟨RL, hRL⟩ : ∃ RL, PS.dropL l x = RL := ⟨_, rfl⟩
  obtain ⟨RB, hRB⟩ : ∃ RB, PS.dropB l x = RB := ⟨_, rfl⟩
  rw [hRL, hRB]
  have HNO : Hid (∀ w', PS.dropB l x = false → Below w.heap.size w w' → GivesS w RL RB (.returned (.tuple #[.slice none 0 0, .bool false])) w') := Lib.hid (fun w' e hb => by
    rw [← hRL, ← hRB]
    unfold PS.dropL
    rw [if_neg (by rw [e]; simp), e]
    exact GivesS.no hb)
  have HYES : Hid (∀ v w', PS.right l = true → PS.hasAt l x = true → OwnS w.heap.size w' v (PS.fil l x) → Below w.heap.size w w' → GivesS w RL RB (.returned (.tuple #[v, .bool true])) w') := Lib.hid (fun v w' h1 h2 ho hb => by
    have e : PS.dropB l x = true := by unfold PS.dropB; rw [h1, h2]; rfl
    rw [← hRL, ← hRB]
    unfold PS.dropL
    rw [if_pos e, e]
    exact ⟨v, rfl, PS.fil_end h1 h2 ▸ ho, hb⟩)
  clear h hRL hRB
  go_enter Try.func31, Try.ntmps31
  go_wp2_with fail
  go_loopw [6, 7, 8] (fun out was i wr => RDropRel w l x n out was i wr) (fun _ _ i _ => n - (intOf i).toNat)
  case atStart => exact ⟨0, Nat.zero_le _, rfl, rfl, OwnS.nil _ _, Below.refl _ _⟩
  case round =>
    obtain ⟨k, hk, rfl, rfl, hown, hbel⟩ := hrel
    have j1 : (0 : Int) ≤ (k : Int) := by omega
    have HO : Hid (∀ W, Below wr.heap.size wr W → OwnS w.heap.size W _ (PS.fil (l.take k) x)) := Lib.hid (fun W hW => hown.keep hW)
    have HBS : Hid (∀ W, Below wr.heap.size wr W → w.heap.size ≤ W.heap.size) := Lib.hid (fun W hW => Nat.le_trans hbel.size hW.size)
    have HLEN : Hid ((PS.fil (l.take k) x).length + 1 ≤ 1048576) := Lib.hid (by have := PS.fil_len (l.take k) x; simp at this; omega)
    by_cases hlt : (k : Int) < n
    · have hkl : k < l.length := by have := HLn.out; omega
      obtain ⟨y, q, hs, x0, x1, by1, bq1⟩ := H'.out.row hbel (k := k) (by omega)
      have st1 := PS.hasAt_step (x := x) hkl
      have st2 := PS.fil_step (x := x) hkl
      rw [hs hkl] at st1 st2
      dsimp only at st1 st2
      obtain ⟨hb0, hhb0⟩ : ∃ hb0, PS.hasAt (l.take k) x = hb0 := ⟨_, rfl⟩
      rw [hhb0] at st1 ⊢
      by_cases hyx : y = x
      · rw [if_pos hyx] at st2
        rw [decide_eq_true hyx, Bool.or_true] at st1
        replace st1 := Lib.hid st1
        replace st2 := Lib.hid st2
        replace hown := Lib.hid hown
        have hbq : (y == x) = true := by simpa using hyx
        clear hs hyx hhb0
        go_wp2_with fail
        go_roundw
        case rel => exact ⟨k + 1, by omega, by go_num, by rw [st1.out], st2.out ▸ hown.out, (by repeat (first | exact Below.refl _ _ | assumption | refine bel_drew ?_ | refine bel_drewN ?_ _ | refine bel_alloc ?_ _ | refine bel_set ?_ (by first | (dsimp only; omega) | (simp; done) | (simp; omega)) _ | refine bel_trans ?_ (by assumption)))⟩
        case measure => simp [intOf]; omega
      · rw [if_neg hyx] at st2
        rw [decide_eq_false hyx, Bool.or_false] at st1
        replace st1 := Lib.hid st1
        replace st2 := Lib.hid st2
        replace hown := Lib.hid hown
        have hbq : (y == x) = false := by simpa using hyx
        clear hs hyx hhb0
        go_wp2_with (at_builtin; refine app_list rfl (.tmp 22) (.tmp 27) rfl w.heap.size _ (PS.fil (l.take k) x) rfl (HO.out _ (by repeat (first | exact Below.refl _ _ | assumption | refine bel_drew ?_ | refine bel_drewN ?_ _ | refine bel_alloc ?_ _ | refine bel_set ?_ (by first | (dsimp only; omega) | (simp; done) | (simp; omega)) _ | refine bel_trans ?_ (by assumption)))) (some ⟨_, 0, none⟩) 1 1 [(y, q)] rfl (src_one (by simp [go_sem]) (by simp [go_sem])) HLEN.out (HBS.out _ (by repeat (first | exact Below.refl _ _ | assumption | refine bel_drew ?_ | refine bel_drewN ?_ _ | refine bel_alloc ?_ _ | refine bel_set ?_ (by first | (dsimp only; omega) | (simp; done) | (simp; omega)) _ | refine bel_trans ?_ (by assumption)))) ?_; intro v2 x2 ho2 hb2; replace ho2 := Lib.hid ho2; have hb2' := bel_trans' (show Below w.heap.size w _ from (by repeat (first | exact Below.refl _ _ | assumption | refine bel_drew ?_ | refine bel_drewN ?_ _ | refine bel_alloc ?_ _ | refine bel_set ?_ (by first | (dsimp only; omega) | (simp; done) | (simp; omega)) _ | refine bel_trans ?_ (by assumption)))) hb2 (Nat.le_refl _))
        go_roundw
        case rel => exact ⟨k + 1, by omega, by go_num, by rw [st1.out], st2.out ▸ ho2.out, hb2'⟩
        case measure => simp [intOf]; omega
    · have htk : l.take k = l := List.take_of_length_le (by have := HLn.out; omega)
      rw [htk] at hown ⊢
      replace hlt : (n : Int) ≤ k := by omega
      have K := ref08_Right c (H'.out.keep hbel)
      rcases hh : PS.hasAt l x with _ | _
      · have hf := fun w' => HNO.out w' (by unfold PS.dropB; rw [hh]; simp)
        replace hf := Lib.hid hf
        clear hh htk K HO HLEN hown
        go_wp2_with fail
        go_ret2
        exact hf.out _ (by repeat (first | exact Below.refl _ _ | assumption | refine bel_drew ?_ | refine bel_drewN ?_ _ | refine bel_alloc ?_ _ | refine bel_set ?_ (by first | (dsimp only; omega) | (simp; done) | (simp; omega)) _ | refine bel_trans ?_ (by assumption)))
      · rcases hr : PS.right l with _ | _
        · have hf := fun w' => HNO.out w' (by unfold PS.dropB; rw [hr]; rfl)
          replace hf := Lib.hid hf
          rw [hr] at K
          replace K := Lib.hid K
          clear hh hr htk HO HLEN hown
          go_wp2_with fail
          refine K.out.mono ?_
          rintro e w5 ⟨rfl, h5⟩
          go_wp2_with fail
          go_ret2
          exact hf.out _ (by repeat (first | exact Below.refl _ _ | assumption | refine bel_drew ?_ | refine bel_drewN ?_ _ | refine bel_alloc ?_ _ | refine bel_set ?_ (by first | (dsimp only; omega) | (simp; done) | (simp; omega)) _ | refine bel_trans ?_ (by assumption)))
        · have hf := fun v w' => HYES.out v w' hr hh
          replace hf := Lib.hid hf
          rw [hr] at K
          replace K := Lib.hid K
          replace hown := Lib.hid hown
          clear hh hr htk HO HLEN
          go_wp2_with fail
          refine K.out.mono ?_
          rintro e w5 ⟨rfl, h5⟩
          go_wp2_with fail
          go_ret2
          exact hf.out _ _ (hown.out.keep h5) (by repeat (first | exact Below.refl _ _ | assumption | refine bel_drew ?_ | refine bel_drewN ?_ _ | refine bel_alloc ?_ _ | refine bel_set ?_ (by first | (dsimp only; omega) | (simp; done) | (simp; omega)) _ | refine bel_trans ?_ (by assumption)))

theorem ref08_Drop_0 (A : Option Addr) (c : Nat) (x : Int) (w : World) :
    Calls Try.prog 31 #[.slice A 0 c, .int .i64 x] w (GivesS w [] false) := by
  have HG := fun w' (h : Below w.heap.size w w') => GivesS.no h
  replace HG := Lib.hid HG
  go_enter Try.func31, Try.ntmps31
  go_wp2_with fail
  refine wp_loop_rounds 1 ?_
  rw [rounds_succ]
  go_wp2_with fail
  go_ret2
  exact HG.out _ (by repeat (first | exact Below.refl _ _ | assumption | refine bel_drew ?_ | refine bel_drewN ?_ _ | refine bel_alloc ?_ _ | refine bel_set ?_ (by first | (dsimp only; omega) | (simp; done) | (simp; omega)) _ | refine bel_trans ?_ (by assumption)))

theorem ref08_Drop {A : Option Addr} {n : Nat} {l : List PS.Sp} (c : Nat) (x : Int) {w : World} (h : SpansAt w A n l) (hn : n ≤ 1000) :
    Calls Try.prog 31 #[.slice A n c, .int .i64 x] w (GivesS w (PS.dropL l x) (PS.dropB l x)) := by
  by_cases h0 : 0 < n
  · obtain ⟨b, off, rfl, -, -⟩ := h.2.2.2 h0
    exact ref08_Drop_some b off n c l x w h hn
  · obtain rfl : n = 0 := by omega
    obtain rfl := List.eq_nil_of_length_eq_zero h.1
    exact ref08_Drop_0 A c x w
end Go.Proofs.Ytfgfnfjeopjbgaa
