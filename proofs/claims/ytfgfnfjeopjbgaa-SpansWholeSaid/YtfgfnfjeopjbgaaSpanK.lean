/-
  Layer 8 (spans): Add at no spans; Drop.
-/
import Derived.Test.YtfgfnfjeopjbgaaSpanJ
namespace Go.Proofs.Ytfgfnfjeopjbgaa
open Go.RowKit
set_option linter.unusedVariables false
set_option linter.unusedSimpArgs false
attribute [local go_sem] drewN_alloc drewN_setCell

set_option maxRecDepth 100000 in
set_option maxHeartbeats 8000000 in
theorem spans_Add_nil (x m : Int) (w : World) (hx : -9223372036854775808 ≤ x ∧ x ≤ 9223372036854775807) (hm : -9223372036854775808 ≤ m ∧ m ≤ 9223372036854775807) (hw : PS.whole (x, m) = true) :
    Calls Try.prog 28 #[.slice none 0 0, .agg #[.int .i64 x, .int .i64 m]] w (GivesS w [(x, m)] true) := by
  obtain ⟨w0, hw0⟩ : ∃ w0, w.alloc (.cells #[.int .i64 x, .int .i64 m] 37) = w0 := ⟨_, rfl⟩
  have hB0 : Below w.heap.size w w0 := by rw [← hw0]; exact bel_alloc (Below.refl _ _) _
  have d0 : w0.cell? ⟨w.heap.size, 0, none⟩ = some (.int .i64 x) := by rw [← hw0]; simp [go_sem]
  have d1 : w0.cell? ⟨w.heap.size, 1, none⟩ = some (.int .i64 m) := by rw [← hw0]; simp [go_sem]
  have ds : w.heap.size < w0.heap.size := by rw [← hw0]; simp
  have K := spans_Right 0 (SpansAt.nil (A := none) (w := w0))
  rw [show PS.right [] = true from rfl] at K
  have K2 := fun W => spans_whole x m W hx hm
  rw [hw] at K2
  have KP := fun W => spans_place 0 x (SpansAt.nil (A := none) (w := W)) (by omega)
  have KC := fun W => spans_Clone_nil 0 W
  replace K := Lib.hid K
  replace K2 := Lib.hid K2
  replace KP := Lib.hid KP
  replace KC := Lib.hid KC
  have HB0 := Lib.hid hB0
  replace hw0 := Lib.hid hw0
  have HSZ : Hid (w.heap.size ≤ w0.heap.size) := Lib.hid (by omega)
  obtain ⟨bs, hbs⟩ : ∃ bs, w.heap.size = bs := ⟨_, rfl⟩
  have D0 : Hid (w0.cell? ⟨bs, 0, none⟩ = some (.int .i64 x)) := Lib.hid (by rw [← hbs]; exact d0)
  have D1 : Hid (w0.cell? ⟨bs, 1, none⟩ = some (.int .i64 m)) := Lib.hid (by rw [← hbs]; exact d1)
  have DS : Hid (bs < w0.heap.size) := Lib.hid (by rw [← hbs]; exact ds)
  replace hbs := Lib.hid hbs
  clear hw hB0 d0 d1 ds hx hm
  go_enter Try.func28, Try.ntmps28
  go_wp2_with fail
  rw [hw0.out]
  refine K.out.mono ?_
  rintro e w1 ⟨rfl, h1⟩
  rw [hbs.out]
  have a0 := cell_after h1 DS.out D0.out
  have a1 := cell_after h1 DS.out D1.out
  go_wp2_with fail
  refine (K2.out _).mono ?_
  rintro e w2 ⟨rfl, rfl⟩
  have z1 : bs < w1.heap.size := Nat.lt_of_lt_of_le DS.out h1.size
  have a0' := cell_alloc (.cells #[.int .i64 x, .int .i64 m] 37) z1 a0
  go_wp2_with fail
  refine (KP.out _).mono ?_
  rintro e w5 ⟨i', f, rfl, hi', hf, hsp', h5⟩
  obtain rfl : i' = 0 := by simpa using hi'
  have B5 : Below w0.heap.size w0 w5 := bel_trans (bel_alloc h1 _) h5
  clear hf hsp' hi' a0 a1 a0' z1 h1 h5
  rw [show ((0 : Nat) : Int) = 0 from rfl]
  have KS6 : ∀ w', Below w0.heap.size w0 w' → (Below w0.heap.size w0 w' ∧ w'.cell? ⟨bs, 0, none⟩ = some (.int .i64 x) ∧ w'.cell? ⟨bs, 1, none⟩ = some (.int .i64 m)) := fun w' hb' => ⟨hb', cell_after hb' DS.out D0.out, cell_after hb' DS.out D1.out⟩
  replace KS6 := Lib.hid KS6
  go_wp2_with fail
  refine wp_region_held_drew (S := (fun w' => Below w0.heap.size w0 w' ∧ w'.cell? ⟨bs, 0, none⟩ = some (.int .i64 x) ∧ w'.cell? ⟨bs, 1, none⟩ = some (.int .i64 m))) (by kernel_rfl) ?_ (fun hHeld => ?_)
  focus ((try dsimp only); exact KS6.out _ (by repeat (first | exact Below.refl _ _ | assumption | refine bel_drew ?_ | refine bel_drewN ?_ _ | refine bel_alloc ?_ _ | refine bel_set ?_ (by first | (dsimp only; omega) | (simp; done) | (simp; omega)) _ | refine bel_trans ?_ (by assumption))))
  refine tk_yes 0 (v := ?_) rfl (by kernel_rfl) (by kernel_rfl) (by kernel_rfl) (fun _ _ _ h => h) (by kernel_rfl) (by assumption) ?_ ?_; rotate_left; (focus (intro w hSw; (try dsimp only at hSw); go_simp; (first | done | (with_reducible rfl)))); (try simp only [Act.put, List.setIfInBounds_toArray, List.set_cons_zero, List.set_cons_succ])
  refine tk_yes 1 (v := ?_) rfl (by kernel_rfl) (by kernel_rfl) (by kernel_rfl) (fun _ _ _ h => h) (by kernel_rfl) (by assumption) ?_ ?_; rotate_left; (focus (intro w hSw; (try dsimp only at hSw); go_simp; (first | done | (with_reducible rfl)))); (try simp only [Act.put, List.setIfInBounds_toArray, List.set_cons_zero, List.set_cons_succ])
  refine tk_yes 2 (v := ?_) rfl (by kernel_rfl) (by kernel_rfl) (by kernel_rfl) (fun _ _ _ h => h) (by kernel_rfl) (by assumption) ?_ ?_; rotate_left; (focus (intro w hSw; (try dsimp only at hSw); go_simp; (first | done | (with_reducible rfl)))); (try simp only [Act.put, List.setIfInBounds_toArray, List.set_cons_zero, List.set_cons_succ])
  refine tk_yes 3 (v := ?_) rfl (by kernel_rfl) (by kernel_rfl) (by kernel_rfl) (fun _ _ _ h => h) (by kernel_rfl) (by assumption) ?_ ?_; rotate_left; (focus (intro w hSw; (try dsimp only at hSw); go_simp; (first | done | (with_reducible rfl)))); (try simp only [Act.put, List.setIfInBounds_toArray, List.set_cons_zero, List.set_cons_succ])
  refine tk_yes 4 (v := ?_) rfl (by kernel_rfl) (by kernel_rfl) (by kernel_rfl) (fun _ _ _ h => h) (by kernel_rfl) (by assumption) ?_ ?_; rotate_left; (focus (intro w hSw; (try dsimp only at hSw); go_simp; (first | done | (with_reducible rfl)))); (try simp only [Act.put, List.setIfInBounds_toArray, List.set_cons_zero, List.set_cons_succ])
  refine tk_no 5 rfl (by kernel_rfl) (by kernel_rfl) (by kernel_rfl) (fun _ _ _ h => h) (by kernel_rfl) (by assumption) ?_; (try simp only [Act.put, List.setIfInBounds_toArray, List.set_cons_zero, List.set_cons_succ])
  refine tk_no 6 rfl (by kernel_rfl) (by kernel_rfl) (by kernel_rfl) (fun _ _ _ h => h) (by kernel_rfl) (by assumption) ?_; (try simp only [Act.put, List.setIfInBounds_toArray, List.set_cons_zero, List.set_cons_succ])
  refine tk_no 7 rfl (by kernel_rfl) (by kernel_rfl) (by kernel_rfl) (fun _ _ _ h => h) (by kernel_rfl) (by assumption) ?_; (try simp only [Act.put, List.setIfInBounds_toArray, List.set_cons_zero, List.set_cons_succ])
  refine tk_no 8 rfl (by kernel_rfl) (by kernel_rfl) (by kernel_rfl) (fun _ _ _ h => h) (by kernel_rfl) (by assumption) ?_; (try simp only [Act.put, List.setIfInBounds_toArray, List.set_cons_zero, List.set_cons_succ])
  refine tk_no 9 rfl (by kernel_rfl) (by kernel_rfl) (by kernel_rfl) (fun _ _ _ h => h) (by kernel_rfl) (by assumption) ?_; (try simp only [Act.put, List.setIfInBounds_toArray, List.set_cons_zero, List.set_cons_succ])
  refine tk_no 10 rfl (by kernel_rfl) (by kernel_rfl) (by kernel_rfl) (fun _ _ _ h => h) (by kernel_rfl) (by assumption) ?_; (try simp only [Act.put, List.setIfInBounds_toArray, List.set_cons_zero, List.set_cons_succ])
  refine tk_yes 11 (v := ?_) rfl (by kernel_rfl) (by kernel_rfl) (by kernel_rfl) (fun _ _ _ h => h) (by kernel_rfl) (by assumption) ?_ ?_; rotate_left; (focus (intro w hSw; (try dsimp only at hSw); go_simp; (first | done | (with_reducible rfl)))); (try simp only [Act.put, List.setIfInBounds_toArray, List.set_cons_zero, List.set_cons_succ])
  refine tk_yes 12 (v := ?_) rfl (by kernel_rfl) (by kernel_rfl) (by kernel_rfl) (fun _ _ _ h => h) (by kernel_rfl) (by assumption) ?_ ?_; rotate_left; (focus (intro w hSw; (try dsimp only at hSw); go_simp; (first | done | (with_reducible rfl)))); (try simp only [Act.put, List.setIfInBounds_toArray, List.set_cons_zero, List.set_cons_succ])
  refine tk_yes 13 (v := ?_) rfl (by kernel_rfl) (by kernel_rfl) (by kernel_rfl) (fun _ _ _ h => h) (by kernel_rfl) (by assumption) ?_ ?_; rotate_left; (focus (intro w hSw; (try dsimp only at hSw); go_simp; (first | done | (with_reducible rfl)))); (try simp only [Act.put, List.setIfInBounds_toArray, List.set_cons_zero, List.set_cons_succ])
  refine tk_yes 14 (v := ?_) rfl (by kernel_rfl) (by kernel_rfl) (by kernel_rfl) (fun _ _ _ h => h) (by kernel_rfl) (by assumption) ?_ ?_; rotate_left; (focus (intro w hSw; (try dsimp only at hSw); go_simp; (first | done | (with_reducible rfl)))); (try simp only [Act.put, List.setIfInBounds_toArray, List.set_cons_zero, List.set_cons_succ])
  refine tk_yes 15 (v := ?_) rfl (by kernel_rfl) (by kernel_rfl) (by kernel_rfl) (fun _ _ _ h => h) (by kernel_rfl) (by assumption) ?_ ?_; rotate_left; (focus (intro w hSw; (try dsimp only at hSw); go_simp; (first | done | (with_reducible rfl)))); (try simp only [Act.put, List.setIfInBounds_toArray, List.set_cons_zero, List.set_cons_succ])
  refine tk_no 16 rfl (by kernel_rfl) (by kernel_rfl) (by kernel_rfl) (fun _ _ _ h => h) (by kernel_rfl) (by assumption) ?_; (try simp only [Act.put, List.setIfInBounds_toArray, List.set_cons_zero, List.set_cons_succ])
  refine tk_no 17 rfl (by kernel_rfl) (by kernel_rfl) (by kernel_rfl) (fun _ _ _ h => h) (by kernel_rfl) (by assumption) ?_; (try simp only [Act.put, List.setIfInBounds_toArray, List.set_cons_zero, List.set_cons_succ])
  refine tk_no 18 rfl (by kernel_rfl) (by kernel_rfl) (by kernel_rfl) (fun _ _ _ h => h) (by kernel_rfl) (by assumption) ?_; (try simp only [Act.put, List.setIfInBounds_toArray, List.set_cons_zero, List.set_cons_succ])
  refine tk_no 19 rfl (by kernel_rfl) (by kernel_rfl) (by kernel_rfl) (fun _ _ _ h => h) (by kernel_rfl) (by assumption) ?_; (try simp only [Act.put, List.setIfInBounds_toArray, List.set_cons_zero, List.set_cons_succ])
  refine tk_no 20 rfl (by kernel_rfl) (by kernel_rfl) (by kernel_rfl) (fun _ _ _ h => h) (by kernel_rfl) (by assumption) ?_; (try simp only [Act.put, List.setIfInBounds_toArray, List.set_cons_zero, List.set_cons_succ])
  refine tk_no 21 rfl (by kernel_rfl) (by kernel_rfl) (by kernel_rfl) (fun _ _ _ h => h) (by kernel_rfl) (by assumption) ?_; (try simp only [Act.put, List.setIfInBounds_toArray, List.set_cons_zero, List.set_cons_succ])
  refine tk_no 22 rfl (by kernel_rfl) (by kernel_rfl) (by kernel_rfl) (fun _ _ _ h => h) (by kernel_rfl) (by assumption) ?_; (try simp only [Act.put, List.setIfInBounds_toArray, List.set_cons_zero, List.set_cons_succ])
  refine tk_yes 23 (v := ?_) rfl (by kernel_rfl) (by kernel_rfl) (by kernel_rfl) (fun _ _ _ h => h) (by kernel_rfl) (by assumption) ?_ ?_; rotate_left; (focus (intro w hSw; (try dsimp only at hSw); go_simp; (first | done | (with_reducible rfl)))); (try simp only [Act.put, List.setIfInBounds_toArray, List.set_cons_zero, List.set_cons_succ])
  refine tk_yes 24 (v := ?_) rfl (by kernel_rfl) (by kernel_rfl) (by kernel_rfl) (fun _ _ _ h => h) (by kernel_rfl) (by assumption) ?_ ?_; rotate_left; (focus (intro w hSw; (try dsimp only at hSw); go_simp; (first | done | (with_reducible rfl)))); (try simp only [Act.put, List.setIfInBounds_toArray, List.set_cons_zero, List.set_cons_succ])
  refine wpAnyH_done (by kernel_rfl) ?_ _
  go_wp2_with fail
  refine wp_region_held_drew (S := (fun w' => Below w0.heap.size w0 w' ∧ w'.cell? ⟨bs, 0, none⟩ = some (.int .i64 x) ∧ w'.cell? ⟨bs, 1, none⟩ = some (.int .i64 m))) (by kernel_rfl) ?_ (fun hHeld => ?_)
  focus ((try dsimp only); exact KS6.out _ (by first | exact hb10' | exact hb9' | exact (by repeat (first | exact Below.refl _ _ | assumption | refine bel_drew ?_ | refine bel_drewN ?_ _ | refine bel_alloc ?_ _ | refine bel_set ?_ (by first | (dsimp only; omega) | (simp; done) | (simp; omega)) _ | refine bel_trans ?_ (by assumption)))))
  refine tk_yes 0 (v := ?_) rfl (by kernel_rfl) (by kernel_rfl) (by kernel_rfl) (fun _ _ _ h => h) (by kernel_rfl) (by assumption) ?_ ?_; rotate_left; (focus (intro w hSw; (try dsimp only at hSw); go_simp; (first | done | (with_reducible rfl)))); (try simp only [Act.put, List.setIfInBounds_toArray, List.set_cons_zero, List.set_cons_succ])
  refine tk_yes 1 (v := ?_) rfl (by kernel_rfl) (by kernel_rfl) (by kernel_rfl) (fun _ _ _ h => h) (by kernel_rfl) (by assumption) ?_ ?_; rotate_left; (focus (intro w hSw; (try dsimp only at hSw); go_simp; (first | done | (with_reducible rfl)))); (try simp only [Act.put, List.setIfInBounds_toArray, List.set_cons_zero, List.set_cons_succ])
  refine tk_yes 2 (v := ?_) rfl (by kernel_rfl) (by kernel_rfl) (by kernel_rfl) (fun _ _ _ h => h) (by kernel_rfl) (by assumption) ?_ ?_; rotate_left; (focus (intro w hSw; (try dsimp only at hSw); go_simp; (first | done | (with_reducible rfl)))); (try simp only [Act.put, List.setIfInBounds_toArray, List.set_cons_zero, List.set_cons_succ])
  refine tk_yes 3 (v := ?_) rfl (by kernel_rfl) (by kernel_rfl) (by kernel_rfl) (fun _ _ _ h => h) (by kernel_rfl) (by assumption) ?_ ?_; rotate_left; (focus (intro w hSw; (try dsimp only at hSw); go_simp; (first | done | (with_reducible rfl)))); (try simp only [Act.put, List.setIfInBounds_toArray, List.set_cons_zero, List.set_cons_succ])
  refine tk_yes 5 (v := ?_) rfl (by kernel_rfl) (by kernel_rfl) (by kernel_rfl) (fun _ _ _ h => h) (by kernel_rfl) (by assumption) ?_ ?_; rotate_left; (focus (intro w hSw; (try dsimp only at hSw); go_simp; (first | done | (with_reducible rfl)))); (try simp only [Act.put, List.setIfInBounds_toArray, List.set_cons_zero, List.set_cons_succ])
  refine tk_yes 8 (v := ?_) rfl (by kernel_rfl) (by kernel_rfl) (by kernel_rfl) (fun _ _ _ h => h) (by kernel_rfl) (by assumption) ?_ ?_; rotate_left; (focus (intro w hSw; (try dsimp only at hSw); go_simp; (first | done | (with_reducible rfl)))); (try simp only [Act.put, List.setIfInBounds_toArray, List.set_cons_zero, List.set_cons_succ])
  refine tk_yes 9 (v := ?_) rfl (by kernel_rfl) (by kernel_rfl) (by kernel_rfl) (fun _ _ _ h => h) (by kernel_rfl) (by assumption) ?_ ?_; rotate_left; (focus (intro w hSw; (try dsimp only at hSw); go_simp; (first | done | (with_reducible rfl)))); (try simp only [Act.put, List.setIfInBounds_toArray, List.set_cons_zero, List.set_cons_succ])
  refine tk_yes 10 (v := ?_) rfl (by kernel_rfl) (by kernel_rfl) (by kernel_rfl) (fun _ _ _ h => h) (by kernel_rfl) (by assumption) ?_ ?_; rotate_left; (focus (intro w hSw; (try dsimp only at hSw); go_simp; (first | done | (with_reducible rfl)))); (try simp only [Act.put, List.setIfInBounds_toArray, List.set_cons_zero, List.set_cons_succ])
  refine tk_two 4 6 rfl rfl (by kernel_rfl) (by kernel_rfl) (by kernel_rfl) (fun KW hKW => ?_) (fun KW hKW => ?_)
  · go_simp; go_at_call 80; refine (KC.out _).mono ?_; have hB8 := hHeld.1; rintro e w8 ⟨v8, rfl, ho8, hb8⟩; replace ho8 := Lib.hid ho8; dsimp only; refine hKW.out _ _ ?_ (fun hHeld => ?_); (focus ((try dsimp only); exact KS6.out _ (by first | exact hb10' | exact hb9' | exact (by repeat (first | exact Below.refl _ _ | assumption | refine bel_drew ?_ | refine bel_drewN ?_ _ | refine bel_alloc ?_ _ | refine bel_set ?_ (by first | (dsimp only; omega) | (simp; done) | (simp; omega)) _ | refine bel_trans ?_ (by assumption)))))); clear hKW KW; (try simp only [Act.put, List.setIfInBounds_toArray, List.set_cons_zero, List.set_cons_succ])
    refine tk_call 6 rfl (by kernel_rfl) (by kernel_rfl) (fun KW hKW => ?_); go_simp; skip; refine hKW.out _ _ ?_ (fun hHeld => ?_); (focus ((try dsimp only); exact KS6.out _ (by first | exact hb10' | exact hb9' | exact (by repeat (first | exact Below.refl _ _ | assumption | refine bel_drew ?_ | refine bel_drewN ?_ _ | refine bel_alloc ?_ _ | refine bel_set ?_ (by first | (dsimp only; omega) | (simp; done) | (simp; omega)) _ | refine bel_trans ?_ (by assumption)))))); clear hKW KW; (try simp only [Act.put, List.setIfInBounds_toArray, List.set_cons_zero, List.set_cons_succ])
    refine tk_call 7 rfl (by kernel_rfl) (by kernel_rfl) (fun KW hKW => ?_); refine app_oper (.tmp 52) (.tmp 54) rfl w0.heap.size v8 [] rfl ((OwnS.keep ho8.out (bel_alloc (Below.refl _ _) _)).mono hB8.size) (some ⟨_, 0, none⟩) 1 1 [(x, m)] rfl (src_one (by simp [go_sem]) (by simp [go_sem])) (by decide) hHeld.1.size ?_; intro v9 w9 ho9 hb9; replace ho9 := Lib.hid ho9; have hb9' := bel_trans' hHeld.1 hb9 (Nat.le_refl _); refine hKW.out _ _ ?_ (fun hHeld => ?_); (focus ((try dsimp only); exact KS6.out _ (by first | exact hb10' | exact hb9' | exact (by repeat (first | exact Below.refl _ _ | assumption | refine bel_drew ?_ | refine bel_drewN ?_ _ | refine bel_alloc ?_ _ | refine bel_set ?_ (by first | (dsimp only; omega) | (simp; done) | (simp; omega)) _ | refine bel_trans ?_ (by assumption)))))); clear hKW KW; (try simp only [Act.put, List.setIfInBounds_toArray, List.set_cons_zero, List.set_cons_succ])
    refine tk_call 11 rfl (by kernel_rfl) (by kernel_rfl) (fun KW hKW => ?_); refine app_oper (.tmp 55) (.tmp 58) rfl w0.heap.size v9 [(x, m)] rfl ho9.out none 0 0 [] rfl src0 (by simp) hHeld.1.size ?_; intro v10 w10 ho10 hb10; replace ho10 := Lib.hid ho10; have hb10' := bel_trans' hHeld.1 hb10 (Nat.le_refl _); refine hKW.out _ _ ?_ (fun hHeld => ?_); (focus ((try dsimp only); exact KS6.out _ (by first | exact hb10' | exact hb9' | exact (by repeat (first | exact Below.refl _ _ | assumption | refine bel_drew ?_ | refine bel_drewN ?_ _ | refine bel_alloc ?_ _ | refine bel_set ?_ (by first | (dsimp only; omega) | (simp; done) | (simp; omega)) _ | refine bel_trans ?_ (by assumption)))))); clear hKW KW; (try simp only [Act.put, List.setIfInBounds_toArray, List.set_cons_zero, List.set_cons_succ])
    refine tk_yes 12 (v := ?_) rfl (by kernel_rfl) (by kernel_rfl) (by kernel_rfl) (fun _ _ _ h => h) (by kernel_rfl) (by assumption) ?_ ?_; rotate_left; (focus (intro w hSw; (try dsimp only at hSw); go_simp; (first | done | (with_reducible rfl)))); (try simp only [Act.put, List.setIfInBounds_toArray, List.set_cons_zero, List.set_cons_succ])
    refine tk_yes 13 (v := ?_) rfl (by kernel_rfl) (by kernel_rfl) (by kernel_rfl) (fun _ _ _ h => h) (by kernel_rfl) (by assumption) ?_ ?_; rotate_left; (focus (intro w hSw; (try dsimp only at hSw); go_simp; (first | done | (with_reducible rfl)))); (try simp only [Act.put, List.setIfInBounds_toArray, List.set_cons_zero, List.set_cons_succ])
    refine wpAnyH_done (by kernel_rfl) ?_ _
    go_wp2_with fail
    go_ret2
    exact ⟨v10, rfl, ho10.out.mono HSZ.out, bel_trans' HB0.out hb10' HSZ.out⟩
  · go_simp; skip; refine hKW.out _ _ ?_ (fun hHeld => ?_); (focus ((try dsimp only); exact KS6.out _ (by first | exact hb10' | exact hb9' | exact (by repeat (first | exact Below.refl _ _ | assumption | refine bel_drew ?_ | refine bel_drewN ?_ _ | refine bel_alloc ?_ _ | refine bel_set ?_ (by first | (dsimp only; omega) | (simp; done) | (simp; omega)) _ | refine bel_trans ?_ (by assumption)))))); clear hKW KW; (try simp only [Act.put, List.setIfInBounds_toArray, List.set_cons_zero, List.set_cons_succ])
    refine tk_call 4 rfl (by kernel_rfl) (by kernel_rfl) (fun KW hKW => ?_); go_simp; go_at_call 80; refine (KC.out _).mono ?_; have hB8 := hHeld.1; rintro e w8 ⟨v8, rfl, ho8, hb8⟩; replace ho8 := Lib.hid ho8; dsimp only; refine hKW.out _ _ ?_ (fun hHeld => ?_); (focus ((try dsimp only); exact KS6.out _ (by first | exact hb10' | exact hb9' | exact (by repeat (first | exact Below.refl _ _ | assumption | refine bel_drew ?_ | refine bel_drewN ?_ _ | refine bel_alloc ?_ _ | refine bel_set ?_ (by first | (dsimp only; omega) | (simp; done) | (simp; omega)) _ | refine bel_trans ?_ (by assumption)))))); clear hKW KW; (try simp only [Act.put, List.setIfInBounds_toArray, List.set_cons_zero, List.set_cons_succ])
    refine tk_call 7 rfl (by kernel_rfl) (by kernel_rfl) (fun KW hKW => ?_); refine app_oper (.tmp 52) (.tmp 54) rfl w0.heap.size v8 [] rfl (OwnS.mono ho8.out hB8.size) (some ⟨_, 0, none⟩) 1 1 [(x, m)] rfl (src_one (cell_after hb8 (by simp) (by simp [go_sem])) (cell_after hb8 (by simp) (by simp [go_sem]))) (by decide) hHeld.1.size ?_; intro v9 w9 ho9 hb9; replace ho9 := Lib.hid ho9; have hb9' := bel_trans' hHeld.1 hb9 (Nat.le_refl _); refine hKW.out _ _ ?_ (fun hHeld => ?_); (focus ((try dsimp only); exact KS6.out _ (by first | exact hb10' | exact hb9' | exact (by repeat (first | exact Below.refl _ _ | assumption | refine bel_drew ?_ | refine bel_drewN ?_ _ | refine bel_alloc ?_ _ | refine bel_set ?_ (by first | (dsimp only; omega) | (simp; done) | (simp; omega)) _ | refine bel_trans ?_ (by assumption)))))); clear hKW KW; (try simp only [Act.put, List.setIfInBounds_toArray, List.set_cons_zero, List.set_cons_succ])
    refine tk_call 11 rfl (by kernel_rfl) (by kernel_rfl) (fun KW hKW => ?_); refine app_oper (.tmp 55) (.tmp 58) rfl w0.heap.size v9 [(x, m)] rfl ho9.out none 0 0 [] rfl src0 (by simp) hHeld.1.size ?_; intro v10 w10 ho10 hb10; replace ho10 := Lib.hid ho10; have hb10' := bel_trans' hHeld.1 hb10 (Nat.le_refl _); refine hKW.out _ _ ?_ (fun hHeld => ?_); (focus ((try dsimp only); exact KS6.out _ (by first | exact hb10' | exact hb9' | exact (by repeat (first | exact Below.refl _ _ | assumption | refine bel_drew ?_ | refine bel_drewN ?_ _ | refine bel_alloc ?_ _ | refine bel_set ?_ (by first | (dsimp only; omega) | (simp; done) | (simp; omega)) _ | refine bel_trans ?_ (by assumption)))))); clear hKW KW; (try simp only [Act.put, List.setIfInBounds_toArray, List.set_cons_zero, List.set_cons_succ])
    refine tk_yes 12 (v := ?_) rfl (by kernel_rfl) (by kernel_rfl) (by kernel_rfl) (fun _ _ _ h => h) (by kernel_rfl) (by assumption) ?_ ?_; rotate_left; (focus (intro w hSw; (try dsimp only at hSw); go_simp; (first | done | (with_reducible rfl)))); (try simp only [Act.put, List.setIfInBounds_toArray, List.set_cons_zero, List.set_cons_succ])
    refine tk_yes 13 (v := ?_) rfl (by kernel_rfl) (by kernel_rfl) (by kernel_rfl) (fun _ _ _ h => h) (by kernel_rfl) (by assumption) ?_ ?_; rotate_left; (focus (intro w hSw; (try dsimp only at hSw); go_simp; (first | done | (with_reducible rfl)))); (try simp only [Act.put, List.setIfInBounds_toArray, List.set_cons_zero, List.set_cons_succ])
    refine wpAnyH_done (by kernel_rfl) ?_ _
    go_wp2_with fail
    go_ret2
    exact ⟨v10, rfl, ho10.out.mono HSZ.out, bel_trans' HB0.out hb10' HSZ.out⟩

/-- A slice value: the cap is at least the length; of no array, it is 0. -/
def CapOk (A : Option Addr) (n c : Nat) : Prop := n ≤ c ∧ c ≤ 9223372036854775807 ∧ (A = none → c = 0) ∧ ∀ ad, A = some ad → ad.spot = none

theorem spans_Add {A : Option Addr} {n : Nat} {l : List PS.Sp} {c : Nat} (s : PS.Sp) {w : World} (h : SpansAt w A n l) (hc : CapOk A n c) (hn : n ≤ 1000) (hs : SpBd s) :
    Calls Try.prog 28 #[.slice A n c, spV s] w (GivesS w (PS.addL l s) (PS.addB l s)) := by
  obtain ⟨x, m⟩ := s
  unfold spV
  dsimp only
  obtain ⟨c1, c2, c3, c4⟩ := hc
  by_cases hg : PS.right l = true ∧ PS.whole (x, m) = true
  · rcases A with _ | ⟨b, off, sp⟩
    · obtain rfl := c3 rfl
      obtain rfl : n = 0 := by omega
      obtain rfl := List.eq_nil_of_length_eq_zero h.1
      have e1 : PS.addB [] (x, m) = true := by unfold PS.addB PS.anyMeet; rw [hg.2]; rfl
      have e2 : PS.addL [] (x, m) = [(x, m)] := by unfold PS.addL; rw [if_pos e1]; rfl
      rw [e1, e2]
      exact spans_Add_nil x m w hs.1 hs.2 hg.2
    · have e := c4 _ rfl
      dsimp only at e
      subst e
      exact spans_Add_right b off n c l x m w h hn c1 c2 hs.1 hs.2 hg.1 hg.2
  · have hb : PS.addB l (x, m) = false := by
      unfold PS.addB
      rcases h1 : PS.right l with _ | _
      · rfl
      · rcases h2 : PS.whole (x, m) with _ | _
        · rfl
        · exact absurd ⟨h1, h2⟩ hg
    have hl : PS.addL l (x, m) = [] := by unfold PS.addL; rw [if_neg (by rw [hb]; simp)]
    rw [hb, hl]
    refine spans_Add_wrong c x m h hs.1 hs.2 ?_
    rcases h1 : PS.right l with _ | _
    · exact .inl rfl
    · exact .inr (by rcases h2 : PS.whole (x, m) with _ | _; · rfl
                     · exact absurd ⟨h1, h2⟩ hg)

theorem spans_Drop_no {A : Option Addr} {n : Nat} {l : List PS.Sp} (c : Nat) (x : Int) {w : World} (h : SpansAt w A n l) (hn : n ≤ 1048576) (hr : PS.dropB l x = false) :
    Calls Try.prog 30 #[.slice A n c, .int .i64 x] w (GivesS w [] false) := by
  have KP := spans_place c x h hn
  have K := fun W (hW : Below w.heap.size w W) => spans_Right c (h.keep hW)
  have HG := fun w' (h : Below w.heap.size w w') => GivesS.no h
  replace HG := Lib.hid HG
  have HL := Lib.hid h.1
  replace KP := Lib.hid KP
  clear h hn
  rcases hb : PS.right l with _ | _
  · rw [hb] at K
    replace K := Lib.hid K
    clear hr hb
    go_enter Try.func30, Try.ntmps30
    go_wp2_with fail
    refine KP.out.mono ?_
    rintro e w5 ⟨i, f, rfl, hi, hf, hsp, h5⟩
    clear hi hf hsp
    replace h5 := Lib.hid h5
    go_wp2_with fail
    refine (K.out _ h5.out).mono ?_
    rintro e w6 ⟨rfl, h6⟩
    have h5' := h5.out
    go_wp2_with fail
    go_ret2
    exact HG.out _ (by repeat (first | exact Below.refl _ _ | assumption | refine bel_drew ?_ | refine bel_drewN ?_ _ | refine bel_alloc ?_ _ | refine bel_set ?_ (by first | (dsimp only; omega) | (simp; done) | (simp; omega)) _ | refine bel_trans ?_ (by assumption)))
  · rw [hb] at K
    have hnot : PS.hasAt l x = false := by unfold PS.dropB at hr; rw [hb] at hr; simpa using hr
    replace K := Lib.hid K
    replace hnot := Lib.hid hnot
    replace hb := Lib.hid hb
    clear hr
    go_enter Try.func30, Try.ntmps30
    go_wp2_with fail
    refine KP.out.mono ?_
    rintro e w5 ⟨i, f, rfl, hi, hf, hsp, h5⟩
    have hff : f = false := by
      rcases f with _ | _
      · rfl
      · obtain ⟨hk, he⟩ := hf.1 rfl
        have : PS.hasAt l x = true := List.any_eq_true.2 ⟨l[i], List.getElem_mem _, by simpa using he⟩
        rw [hnot.out] at this
        cases this
    subst hff
    clear hi hf hsp
    replace h5 := Lib.hid h5
    go_wp2_with fail
    refine (K.out _ h5.out).mono ?_
    rintro e w6 ⟨rfl, h6⟩
    have h5' := h5.out
    go_wp2_with fail
    go_ret2
    exact HG.out _ (by repeat (first | exact Below.refl _ _ | assumption | refine bel_drew ?_ | refine bel_drewN ?_ _ | refine bel_alloc ?_ _ | refine bel_set ?_ (by first | (dsimp only; omega) | (simp; done) | (simp; omega)) _ | refine bel_trans ?_ (by assumption)))

set_option maxRecDepth 100000 in
set_option maxHeartbeats 16000000 in
theorem spans_Drop_yes (b off n c : Nat) (l : List PS.Sp) (x : Int) (w : World) (h : SpansAt w (some ⟨b, off, none⟩) n l) (hn : n ≤ 1000) (hnc : n ≤ c) (hcm : c ≤ 9223372036854775807) (hr : PS.right l = true) (hx : PS.hasAt l x = true) :
    Calls Try.prog 30 #[.slice (some ⟨b, off, none⟩) n c, .int .i64 x] w (GivesS w (PS.delL l x) true) := by
  have KP := spans_place c x h (by omega)
  have K := fun W (hW : Below w.heap.size w W) => spans_Right c (h.keep hW)
  rw [hr] at K
  obtain ⟨hp, he⟩ := (PS.hasAt_iff hr).1 hx
  have hsp := PS.split_pos hr x
  obtain ⟨i, hi⟩ : ∃ i, PS.pos l x = i := ⟨_, rfl⟩
  have hdel : PS.delL l x = l.take i ++ l.drop (i + 1) := by unfold PS.delL; rw [hi]
  rw [hdel]
  rw [hi] at hp hsp
  have he' : l[i].1 = x := by subst hi; exact he
  have HLn := h.1
  have KC := fun W (hW : Below w.heap.size w W) => spans_Clone_some b off i i (l.take i) W ((h.keep hW).take (by omega)) (by omega)
  obtain ⟨RL, hRL⟩ : ∃ RL, l.take i ++ l.drop (i + 1) = RL := ⟨_, rfl⟩
  rw [hRL]
  have HLEN : Hid ((l.take i).length + (n - (i + 1)) ≤ 1048576 ∧ (l.take i).length + 0 ≤ 1048576) := Lib.hid (by simp; omega)
  have KS : ∀ w', Below w.heap.size w w' → (Below w.heap.size w w' ∧ True) := fun w' hb => ⟨hb, trivial⟩
  replace KS := Lib.hid KS
  have H' := Lib.hid h
  replace K := Lib.hid K
  replace KP := Lib.hid KP
  replace KC := Lib.hid KC
  replace hRL := Lib.hid hRL
  replace hsp := Lib.hid hsp
  have hin : i < n := by omega
  have HP := Lib.hid hp
  replace HLn := Lib.hid HLn
  replace he' := Lib.hid he'
  have jc : (c : Int) ≤ 9223372036854775807 := by omega
  have j0 : (0 : Int) ≤ (i : Int) := by omega
  have jn : (i : Int) < n := by omega
  have jnc : (n : Int) ≤ c := by omega
  have jic : (i : Int) ≤ c := by omega
  have j1 : (0 : Int) ≤ (i : Int) + 1 := by omega
  have j2 : (i : Int) + 1 ≤ n := by omega
  have j3 : (i : Int) + 1 ≤ c := by omega
  have j4 : ((i : Int) + 1).toNat = i + 1 := by omega
  have j5 : IntKind.i64.wrap ((i : Int) + 1) = (i : Int) + 1 := by rw [IntKind.wrap_i64]; omega
  have hr' := Lib.hid hr
  clear h hr hx hi hdel
  by_cases hcs : c = i + 1
  · subst hcs
    have g7 : (i : Int) ≤ (i : Int) + 1 := by omega
    have g8 : i ≤ i + 1 := by omega
    have g9 : (n : Int) ≤ (i : Int) + 1 := by omega
    have KD : Hid (∀ W, Below w.heap.size w W → SrcS 2 W (some ⟨b, off, none⟩) 0 (cellsS (l.drop (i + 1)))) := Lib.hid (fun W hW => by rw [List.drop_of_length_le (by have := HLn.out; omega)]; exact src0)
    go_enter Try.func30, Try.ntmps30
    go_wp2_with fail
    refine KP.out.mono ?_
    rintro e w5 ⟨i', f, rfl, hi', hf, hsp', h5⟩
    obtain rfl : i' = i := PS.split_uniq hi' (Nat.le_of_lt HP.out) (hsp' hr'.out) hsp.out
    obtain rfl : f = true := hf.2 ⟨HP.out, he'.out⟩
    clear hi' hf hsp'
    replace h5 := Lib.hid h5
    go_wp2_with fail
    refine (K.out _ h5.out).mono ?_
    rintro e w6 ⟨rfl, h6⟩
    have h5' := h5.out
    go_wp2_with fail
    refine wp_region_held_drew (S := (fun w' => Below w.heap.size w w' ∧ True)) (by kernel_rfl) ?_ (fun hHeld => ?_)
    focus ((try dsimp only); exact KS.out _ (by first | exact hb9' | exact (by repeat (first | exact Below.refl _ _ | assumption | refine bel_drew ?_ | refine bel_drewN ?_ _ | refine bel_alloc ?_ _ | refine bel_set ?_ (by first | (dsimp only; omega) | (simp; done) | (simp; omega)) _ | refine bel_trans ?_ (by assumption)))))
    refine tk_yes 0 (v := ?_) rfl (by kernel_rfl) (by kernel_rfl) (by kernel_rfl) (fun _ _ _ h => h) (by kernel_rfl) (by assumption) ?_ ?_; rotate_left; (focus (intro w hSw; (try dsimp only at hSw); go_simp; (first | done | (with_reducible rfl)))); (try simp only [Act.put, List.setIfInBounds_toArray, List.set_cons_zero, List.set_cons_succ])
    refine tk_yes 1 (v := ?_) rfl (by kernel_rfl) (by kernel_rfl) (by kernel_rfl) (fun _ _ _ h => h) (by kernel_rfl) (by assumption) ?_ ?_; rotate_left; (focus (intro w hSw; (try dsimp only at hSw); go_simp; (first | done | (with_reducible rfl)))); (try simp only [Act.put, List.setIfInBounds_toArray, List.set_cons_zero, List.set_cons_succ])
    refine tk_yes 2 (v := ?_) rfl (by kernel_rfl) (by kernel_rfl) (by kernel_rfl) (fun _ _ _ h => h) (by kernel_rfl) (by assumption) ?_ ?_; rotate_left; (focus (intro w hSw; (try dsimp only at hSw); go_simp; (first | done | (with_reducible rfl)))); (try simp only [Act.put, List.setIfInBounds_toArray, List.set_cons_zero, List.set_cons_succ])
    refine tk_yes 3 (v := ?_) rfl (by kernel_rfl) (by kernel_rfl) (by kernel_rfl) (fun _ _ _ h => h) (by kernel_rfl) (by assumption) ?_ ?_; rotate_left; (focus (intro w hSw; (try dsimp only at hSw); go_simp; (first | done | (with_reducible rfl)))); (try simp only [Act.put, List.setIfInBounds_toArray, List.set_cons_zero, List.set_cons_succ])
    refine tk_yes 5 (v := ?_) rfl (by kernel_rfl) (by kernel_rfl) (by kernel_rfl) (fun _ _ _ h => h) (by kernel_rfl) (by assumption) ?_ ?_; rotate_left; (focus (intro w hSw; (try dsimp only at hSw); go_simp; (first | done | (with_reducible rfl)))); (try simp only [Act.put, List.setIfInBounds_toArray, List.set_cons_zero, List.set_cons_succ])
    refine tk_yes 6 (v := ?_) rfl (by kernel_rfl) (by kernel_rfl) (by kernel_rfl) (fun _ _ _ h => h) (by kernel_rfl) (by assumption) ?_ ?_; rotate_left; (focus (intro w hSw; (try dsimp only at hSw); go_simp; (first | done | (with_reducible rfl)))); (try simp only [Act.put, List.setIfInBounds_toArray, List.set_cons_zero, List.set_cons_succ])
    refine tk_yes 7 (v := ?_) rfl (by kernel_rfl) (by kernel_rfl) (by kernel_rfl) (fun _ _ _ h => h) (by kernel_rfl) (by assumption) ?_ ?_; rotate_left; (focus (intro w hSw; (try dsimp only at hSw); go_simp; (first | done | (with_reducible rfl)))); (try simp only [Act.put, List.setIfInBounds_toArray, List.set_cons_zero, List.set_cons_succ])
    refine tk_yes 8 (v := ?_) rfl (by kernel_rfl) (by kernel_rfl) (by kernel_rfl) (fun _ _ _ h => h) (by kernel_rfl) (by assumption) ?_ ?_; rotate_left; (focus (intro w hSw; (try dsimp only at hSw); go_simp; (first | done | (with_reducible rfl)))); (try simp only [Act.put, List.setIfInBounds_toArray, List.set_cons_zero, List.set_cons_succ])
    refine tk_call 4 rfl (by kernel_rfl) (by kernel_rfl) (fun KW hKW => ?_); go_simp; go_at_call 80; refine (KC.out _ hHeld.1).mono ?_; have hB8 := hHeld.1; rintro e w8 ⟨v8, rfl, ho8, hb8⟩; replace ho8 := Lib.hid ho8; dsimp only; refine hKW.out _ _ ?_ (fun hHeld => ?_); (focus ((try dsimp only); exact KS.out _ (by first | exact hb9' | exact (by repeat (first | exact Below.refl _ _ | assumption | refine bel_drew ?_ | refine bel_drewN ?_ _ | refine bel_alloc ?_ _ | refine bel_set ?_ (by first | (dsimp only; omega) | (simp; done) | (simp; omega)) _ | refine bel_trans ?_ (by assumption)))))); clear hKW KW; (try simp only [Act.put, List.setIfInBounds_toArray, List.set_cons_zero, List.set_cons_succ])
    refine tk_call 9 rfl (by kernel_rfl) (by kernel_rfl) (fun KW hKW => ?_); refine app_oper (.tmp 25) (.tmp 29) rfl w.heap.size v8 (l.take i') rfl (OwnS.mono ho8.out hB8.size) (some ⟨b, off, none⟩) 0 _ (l.drop (i' + 1)) rfl (KD.out _ hHeld.1) HLEN.out.2 hHeld.1.size ?_; intro v9 w9 ho9 hb9; replace ho9 := Lib.hid ho9; have hb9' := bel_trans' hHeld.1 hb9 (Nat.le_refl _); refine hKW.out _ _ ?_ (fun hHeld => ?_); (focus ((try dsimp only); exact KS.out _ (by first | exact hb9' | exact (by repeat (first | exact Below.refl _ _ | assumption | refine bel_drew ?_ | refine bel_drewN ?_ _ | refine bel_alloc ?_ _ | refine bel_set ?_ (by first | (dsimp only; omega) | (simp; done) | (simp; omega)) _ | refine bel_trans ?_ (by assumption)))))); clear hKW KW; (try simp only [Act.put, List.setIfInBounds_toArray, List.set_cons_zero, List.set_cons_succ])
    refine tk_yes 10 (v := ?_) rfl (by kernel_rfl) (by kernel_rfl) (by kernel_rfl) (fun _ _ _ h => h) (by kernel_rfl) (by assumption) ?_ ?_; rotate_left; (focus (intro w hSw; (try dsimp only at hSw); go_simp; (first | done | (with_reducible rfl)))); (try simp only [Act.put, List.setIfInBounds_toArray, List.set_cons_zero, List.set_cons_succ])
    refine tk_yes 11 (v := ?_) rfl (by kernel_rfl) (by kernel_rfl) (by kernel_rfl) (fun _ _ _ h => h) (by kernel_rfl) (by assumption) ?_ ?_; rotate_left; (focus (intro w hSw; (try dsimp only at hSw); go_simp; (first | done | (with_reducible rfl)))); (try simp only [Act.put, List.setIfInBounds_toArray, List.set_cons_zero, List.set_cons_succ])
    refine wpAnyH_done (by kernel_rfl) ?_ _
    go_wp2_with fail
    go_ret2
    exact ⟨v9, rfl, hRL.out ▸ ho9.out, hb9'⟩
  · have KD : Hid (∀ W, Below w.heap.size w W → SrcS 2 W (some ⟨b, off + (i + 1) * 2, none⟩) (n - (i + 1)) (cellsS (l.drop (i + 1)))) := Lib.hid (fun W hW => ((H'.out.keep hW).drop (by have := HLn.out; omega)).src')
    go_enter Try.func30, Try.ntmps30
    go_wp2_with fail
    refine KP.out.mono ?_
    rintro e w5 ⟨i', f, rfl, hi', hf, hsp', h5⟩
    obtain rfl : i' = i := PS.split_uniq hi' (Nat.le_of_lt HP.out) (hsp' hr'.out) hsp.out
    obtain rfl : f = true := hf.2 ⟨HP.out, he'.out⟩
    clear hi' hf hsp'
    replace h5 := Lib.hid h5
    go_wp2_with fail
    refine (K.out _ h5.out).mono ?_
    rintro e w6 ⟨rfl, h6⟩
    have h5' := h5.out
    go_wp2_with fail
    refine wp_region_held_drew (S := (fun w' => Below w.heap.size w w' ∧ True)) (by kernel_rfl) ?_ (fun hHeld => ?_)
    focus ((try dsimp only); exact KS.out _ (by first | exact hb9' | exact (by repeat (first | exact Below.refl _ _ | assumption | refine bel_drew ?_ | refine bel_drewN ?_ _ | refine bel_alloc ?_ _ | refine bel_set ?_ (by first | (dsimp only; omega) | (simp; done) | (simp; omega)) _ | refine bel_trans ?_ (by assumption)))))
    refine tk_yes 0 (v := ?_) rfl (by kernel_rfl) (by kernel_rfl) (by kernel_rfl) (fun _ _ _ h => h) (by kernel_rfl) (by assumption) ?_ ?_; rotate_left; (focus (intro w hSw; (try dsimp only at hSw); go_simp; (first | done | (with_reducible rfl)))); (try simp only [Act.put, List.setIfInBounds_toArray, List.set_cons_zero, List.set_cons_succ])
    refine tk_yes 1 (v := ?_) rfl (by kernel_rfl) (by kernel_rfl) (by kernel_rfl) (fun _ _ _ h => h) (by kernel_rfl) (by assumption) ?_ ?_; rotate_left; (focus (intro w hSw; (try dsimp only at hSw); go_simp; (first | done | (with_reducible rfl)))); (try simp only [Act.put, List.setIfInBounds_toArray, List.set_cons_zero, List.set_cons_succ])
    refine tk_yes 2 (v := ?_) rfl (by kernel_rfl) (by kernel_rfl) (by kernel_rfl) (fun _ _ _ h => h) (by kernel_rfl) (by assumption) ?_ ?_; rotate_left; (focus (intro w hSw; (try dsimp only at hSw); go_simp; (first | done | (with_reducible rfl)))); (try simp only [Act.put, List.setIfInBounds_toArray, List.set_cons_zero, List.set_cons_succ])
    refine tk_yes 3 (v := ?_) rfl (by kernel_rfl) (by kernel_rfl) (by kernel_rfl) (fun _ _ _ h => h) (by kernel_rfl) (by assumption) ?_ ?_; rotate_left; (focus (intro w hSw; (try dsimp only at hSw); go_simp; (first | done | (with_reducible rfl)))); (try simp only [Act.put, List.setIfInBounds_toArray, List.set_cons_zero, List.set_cons_succ])
    refine tk_yes 5 (v := ?_) rfl (by kernel_rfl) (by kernel_rfl) (by kernel_rfl) (fun _ _ _ h => h) (by kernel_rfl) (by assumption) ?_ ?_; rotate_left; (focus (intro w hSw; (try dsimp only at hSw); go_simp; (first | done | (with_reducible rfl)))); (try simp only [Act.put, List.setIfInBounds_toArray, List.set_cons_zero, List.set_cons_succ])
    refine tk_yes 6 (v := ?_) rfl (by kernel_rfl) (by kernel_rfl) (by kernel_rfl) (fun _ _ _ h => h) (by kernel_rfl) (by assumption) ?_ ?_; rotate_left; (focus (intro w hSw; (try dsimp only at hSw); go_simp; (first | done | (with_reducible rfl)))); (try simp only [Act.put, List.setIfInBounds_toArray, List.set_cons_zero, List.set_cons_succ])
    refine tk_yes 7 (v := ?_) rfl (by kernel_rfl) (by kernel_rfl) (by kernel_rfl) (fun _ _ _ h => h) (by kernel_rfl) (by assumption) ?_ ?_; rotate_left; (focus (intro w hSw; (try dsimp only at hSw); go_simp; (first | done | (with_reducible rfl)))); (try simp only [Act.put, List.setIfInBounds_toArray, List.set_cons_zero, List.set_cons_succ])
    refine tk_yes 8 (v := ?_) rfl (by kernel_rfl) (by kernel_rfl) (by kernel_rfl) (fun _ _ _ h => h) (by kernel_rfl) (by assumption) ?_ ?_; rotate_left; (focus (intro w hSw; (try dsimp only at hSw); go_simp; (first | done | (with_reducible rfl)))); (try simp only [Act.put, List.setIfInBounds_toArray, List.set_cons_zero, List.set_cons_succ])
    refine tk_call 4 rfl (by kernel_rfl) (by kernel_rfl) (fun KW hKW => ?_); go_simp; go_at_call 80; refine (KC.out _ hHeld.1).mono ?_; have hB8 := hHeld.1; rintro e w8 ⟨v8, rfl, ho8, hb8⟩; replace ho8 := Lib.hid ho8; dsimp only; refine hKW.out _ _ ?_ (fun hHeld => ?_); (focus ((try dsimp only); exact KS.out _ (by first | exact hb9' | exact (by repeat (first | exact Below.refl _ _ | assumption | refine bel_drew ?_ | refine bel_drewN ?_ _ | refine bel_alloc ?_ _ | refine bel_set ?_ (by first | (dsimp only; omega) | (simp; done) | (simp; omega)) _ | refine bel_trans ?_ (by assumption)))))); clear hKW KW; (try simp only [Act.put, List.setIfInBounds_toArray, List.set_cons_zero, List.set_cons_succ])
    refine tk_call 9 rfl (by kernel_rfl) (by kernel_rfl) (fun KW hKW => ?_); refine app_oper (.tmp 25) (.tmp 29) rfl w.heap.size v8 (l.take i') rfl (OwnS.mono ho8.out hB8.size) (some ⟨b, off + (i' + 1) * 2, none⟩) (n - (i' + 1)) _ (l.drop (i' + 1)) rfl (KD.out _ hHeld.1) HLEN.out.1 hHeld.1.size ?_; intro v9 w9 ho9 hb9; replace ho9 := Lib.hid ho9; have hb9' := bel_trans' hHeld.1 hb9 (Nat.le_refl _); refine hKW.out _ _ ?_ (fun hHeld => ?_); (focus ((try dsimp only); exact KS.out _ (by first | exact hb9' | exact (by repeat (first | exact Below.refl _ _ | assumption | refine bel_drew ?_ | refine bel_drewN ?_ _ | refine bel_alloc ?_ _ | refine bel_set ?_ (by first | (dsimp only; omega) | (simp; done) | (simp; omega)) _ | refine bel_trans ?_ (by assumption)))))); clear hKW KW; (try simp only [Act.put, List.setIfInBounds_toArray, List.set_cons_zero, List.set_cons_succ])
    refine tk_yes 10 (v := ?_) rfl (by kernel_rfl) (by kernel_rfl) (by kernel_rfl) (fun _ _ _ h => h) (by kernel_rfl) (by assumption) ?_ ?_; rotate_left; (focus (intro w hSw; (try dsimp only at hSw); go_simp; (first | done | (with_reducible rfl)))); (try simp only [Act.put, List.setIfInBounds_toArray, List.set_cons_zero, List.set_cons_succ])
    refine tk_yes 11 (v := ?_) rfl (by kernel_rfl) (by kernel_rfl) (by kernel_rfl) (fun _ _ _ h => h) (by kernel_rfl) (by assumption) ?_ ?_; rotate_left; (focus (intro w hSw; (try dsimp only at hSw); go_simp; (first | done | (with_reducible rfl)))); (try simp only [Act.put, List.setIfInBounds_toArray, List.set_cons_zero, List.set_cons_succ])
    refine wpAnyH_done (by kernel_rfl) ?_ _
    go_wp2_with fail
    go_ret2
    exact ⟨v9, rfl, hRL.out ▸ ho9.out, hb9'⟩

theorem spans_Drop {A : Option Addr} {n : Nat} {l : List PS.Sp} {c : Nat} (x : Int) {w : World} (h : SpansAt w A n l) (hc : CapOk A n c) (hn : n ≤ 1000) :
    Calls Try.prog 30 #[.slice A n c, .int .i64 x] w (GivesS w (PS.dropL l x) (PS.dropB l x)) := by
  unfold PS.dropL
  rcases hb : PS.dropB l x with _ | _
  · rw [if_neg (by simp)]
    exact spans_Drop_no c x h (by omega) hb
  · rw [if_pos rfl]
    have hg : PS.right l = true ∧ PS.hasAt l x = true := by unfold PS.dropB at hb; simpa using hb
    obtain ⟨hp, -⟩ := (PS.hasAt_iff hg.1).1 hg.2
    have hl := h.1
    obtain ⟨b, off, rfl, -, -⟩ := h.2.2.2 (by omega)
    exact spans_Drop_yes b off n c l x w h hn hc.1 hc.2.1 hg.1 hg.2
end Go.Proofs.Ytfgfnfjeopjbgaa
