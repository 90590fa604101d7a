/-
  Layer 8's example; the walks of the laws SpansFinds and SpansJoins.
-/
import Derived.Test.YtfgfnfjeopjbgaaSpanM
import Derived.Test.YtfgfnfjeopjbgaaSpanG
import Derived.Test.YtfgfnfjeopjbgaaSpanE
namespace Go.Proofs.Ytfgfnfjeopjbgaa
open Go.RowKit
set_option linter.unusedVariables false
set_option linter.unusedSimpArgs false
attribute [local go_sem] drewN_alloc drewN_setCell

theorem OwnS.val {B : Nat} {w : World} {v : Value} {l : List PS.Sp} (h : OwnS B w v l) (hbd : ∀ s ∈ l, SpBd s) : ∃ A c, v = .slice A l.length c ∧ SpansAt w A l.length l ∧ CapOk A l.length c := by
  rcases h.2 with ⟨rfl, e⟩ | ⟨g, cap, cur, rfl, hb, hg, hn, hcm, hcs, hx⟩
  · obtain rfl := List.eq_nil_of_length_eq_zero e
    exact ⟨none, 0, rfl, SpansAt.nil, Nat.le_refl _, by omega, fun _ => rfl, fun ad e => by simp at e⟩
  · obtain ⟨A, c, e, hs, h1, h2⟩ := h.spans hbd
    obtain ⟨e1, -, e3⟩ : some (⟨g, 0, none⟩ : Addr) = A ∧ True ∧ cap = c := by simpa using e
    subst e1 e3
    exact ⟨_, _, e, hs, h1, h2, fun e => by simp at e, fun ad e => by obtain rfl := Option.some.inj e; rfl⟩

/-- A slice of n spans that reads as l, and whether it may be. -/
def GivesL (w : World) (n : Nat) (l : List PS.Sp) (ok : Bool) (e : Ending) (w' : World) : Prop :=
  ∃ A c, e = .returned (.tuple #[.slice A n c, .bool ok]) ∧ SpansAt w' A n l ∧ CapOk A n c ∧ Below w.heap.size w w'
theorem GivesS.lit {w w' : World} {l l' : List PS.Sp} {ok ok' : Bool} {e : Ending} {n : Nat} (h : GivesS w l ok e w') (hbd : ∀ s ∈ l, SpBd s) (hl : l = l') (ho : ok = ok') (hn : l'.length = n) : GivesL w n l' ok' e w' := by
  subst hl ho hn
  obtain ⟨v, rfl, hown, hb⟩ := h
  obtain ⟨A, c, rfl, hs, hc⟩ := hown.val hbd
  exact ⟨A, c, rfl, hs, hc, hb⟩
theorem ins_bd {l : List PS.Sp} {s : PS.Sp} (h : ∀ p ∈ l, SpBd p) (hs : SpBd s) : ∀ p ∈ PS.addL l s, SpBd p := by
  intro p hp
  unfold PS.addL at hp
  split at hp
  · unfold PS.ins at hp
    rcases List.mem_append.1 hp with hp | hp
    · exact h p (List.mem_of_mem_take hp)
    · rcases List.mem_cons.1 hp with rfl | hp
      · exact hs
      · exact h p (List.mem_of_mem_drop hp)
  · simp at hp
theorem del_bd {l : List PS.Sp} {x : Int} (h : ∀ p ∈ l, SpBd p) : ∀ p ∈ PS.dropL l x, SpBd p := by
  intro p hp
  unfold PS.dropL at hp
  split at hp
  · unfold PS.delL at hp
    rcases List.mem_append.1 hp with hp | hp
    · exact h p (List.mem_of_mem_take hp)
    · exact h p (List.mem_of_mem_drop hp)
  · simp at hp
theorem addL_len (l : List PS.Sp) (s : PS.Sp) : (PS.addL l s).length ≤ l.length + 1 := by
  unfold PS.addL
  split
  · unfold PS.ins; simp; omega
  · simp
theorem dropL_len (l : List PS.Sp) (x : Int) : (PS.dropL l x).length ≤ l.length := by
  unfold PS.dropL
  split
  · unfold PS.delL; simp; omega
  · simp

theorem add_lit {A : Option Addr} {n c : Nat} {l : List PS.Sp} (x m : Int) (l' : List PS.Sp) (n' : Nat) (ok : Bool) {w : World} (h : SpansAt w A n l) (hc : CapOk A n c) (hn : n ≤ 1000) (hs : SpBd (x, m)) (e1 : PS.addL l (x, m) = l') (e2 : PS.addB l (x, m) = ok) (e3 : l'.length = n') :
    Calls Try.prog 28 #[.slice A n c, .agg #[.int .i64 x, .int .i64 m]] w (GivesL w n' l' ok) :=
  (spans_Add (x, m) h hc hn hs).mono fun e w' g => g.lit (ins_bd h.2.2.1 hs) e1 e2 e3
theorem spans_one {w : World} {g : Nat} {s : PS.Sp} (hg : g < w.heap.size) (hb : SpBd s) (h0 : w.cell? ⟨g, 0, none⟩ = some (.int .i64 s.1)) (h1 : w.cell? ⟨g, 1, none⟩ = some (.int .i64 s.2)) : SpansAt w (some ⟨g, 0, none⟩) 1 [s] := by
  refine ⟨rfl, by omega, fun p hp => by obtain rfl := List.mem_singleton.1 hp; exact hb, fun _ => ⟨g, 0, rfl, hg, fun i hi => ?_⟩⟩
  obtain rfl : i = 0 := by omega
  exact ⟨h0, h1⟩

set_option maxRecDepth 100000 in
set_option maxHeartbeats 4000000 in
theorem law08_works (w : World) : Calls Try.prog 21 #[] w fun e w' => e = .returned (.bool true) ∧ Below w.heap.size w w' := by
  have c1 : ∀ W, SpansAt W (some ⟨w.heap.size, 0, none⟩) 1 [(4, 4)] → Calls Try.prog 28 #[.slice (some ⟨w.heap.size, 0, none⟩) 1 1, .agg #[.int .i64 0, .int .i64 4]] W (GivesL W 2 [(0, 4), (4, 4)] true) := fun W h =>
    add_lit 0 4 [(0, 4), (4, 4)] 2 true h ⟨Nat.le_refl _, by omega, fun e => by simp at e, fun ad e => by obtain rfl := Option.some.inj e; rfl⟩ (by omega) ⟨by simp, by simp⟩ (by decide +kernel) (by decide +kernel) rfl
  have c2 : ∀ W A c, SpansAt W A 2 [(0, 4), (4, 4)] → CapOk A 2 c → Calls Try.prog 28 #[.slice A 2 c, .agg #[.int .i64 8, .int .i64 2]] W (GivesL W 3 [(0, 4), (4, 4), (8, 2)] true) := fun W A c h hc =>
    add_lit 8 2 [(0, 4), (4, 4), (8, 2)] 3 true h hc (by omega) ⟨by simp, by simp⟩ (by decide +kernel) (by decide +kernel) rfl
  have c3 : ∀ W A c, SpansAt W A 3 [(0, 4), (4, 4), (8, 2)] → CapOk A 3 c → Calls Try.prog 28 #[.slice A 3 c, .agg #[.int .i64 9, .int .i64 1]] W (GivesL W 0 [] false) := fun W A c h hc =>
    add_lit 9 1 [] 0 false h hc (by omega) ⟨by simp, by simp⟩ (by decide +kernel) (by decide +kernel) rfl
  have c4 : ∀ W A c, SpansAt W A 3 [(0, 4), (4, 4), (8, 2)] → Calls Try.prog 26 #[.slice A 3 c, .int .i64 3, .int .i64 20] W fun e w' => e = .returned (.int .i64 10) ∧ Below W.heap.size W w' := fun W A c h => by
    have := spans_Gap c 3 20 h (by omega) (by omega)
    rwa [show PS.gap [(0, 4), (4, 4), (8, 2)] 3 20 = 10 by decide +kernel] at this
  have c5 : ∀ W A c, SpansAt W A 3 [(0, 4), (4, 4), (8, 2)] → Calls Try.prog 22 #[.slice A 3 c, .int .i64 5] W fun e w' => e = .returned (.int .i64 1) ∧ Below W.heap.size W w' := fun W A c h => by
    have := spans_Find c 5 h (by omega)
    rwa [show PS.find [(0, 4), (4, 4), (8, 2)] 5 = 1 by decide +kernel] at this
  have c6 : ∀ W A c, SpansAt W A 3 [(0, 4), (4, 4), (8, 2)] → Calls Try.prog 24 #[.slice A 3 c] W fun e w' => e = .returned (.int .i64 10) ∧ Below W.heap.size W w' := fun W A c h => by
    have := spans_Total c h
    rwa [show PS.total [(0, 4), (4, 4), (8, 2)] = 10 by decide +kernel] at this
  have c7 : ∀ W A c, SpansAt W A 3 [(0, 4), (4, 4), (8, 2)] → Calls Try.prog 32 #[.slice A 3 c] W fun e w' => e = .returned (.bool true) ∧ Below W.heap.size W w' := fun W A c h => by
    have := spans_Right c h
    rwa [show PS.right [(0, 4), (4, 4), (8, 2)] = true by decide +kernel] at this
  have C1 := Lib.hid c1
  have C2 := Lib.hid c2
  have C3 := Lib.hid c3
  have C4 := Lib.hid c4
  have C5 := Lib.hid c5
  have C6 := Lib.hid c6
  have C7 := Lib.hid c7
  clear c1 c2 c3 c4 c5 c6 c7
  go_enter Try.func21, Try.ntmps21
  go_wp2_with fail
  refine (C1.out _ (spans_one (by simp) ⟨by simp, by simp⟩ (by simp [go_sem]) (by simp [go_sem]))).mono ?_
  rintro e w1 ⟨A1, k1, rfl, s1, q1, h1⟩
  replace s1 := Lib.hid s1
  replace q1 := Lib.hid q1
  go_wp2_with fail
  refine (C2.out _ _ _ s1.out q1.out).mono ?_
  rintro e w2 ⟨A2, k2, rfl, s2, q2, h2⟩
  replace s2 := Lib.hid s2
  replace q2 := Lib.hid q2
  go_wp2_with fail
  refine (C3.out _ _ _ s2.out q2.out).mono ?_
  rintro e w3 ⟨A3, k3, rfl, s3, q3, h3⟩
  replace s2 := Lib.hid (s2.out.keep h3)
  clear s3 q3
  go_wp2_with fail
  refine (C4.out _ _ _ s2.out).mono ?_
  rintro e w4 ⟨rfl, h4⟩
  replace s2 := Lib.hid (s2.out.keep h4)
  go_wp2_with fail
  refine (C5.out _ _ _ s2.out).mono ?_
  rintro e w5 ⟨rfl, h5⟩
  replace s2 := Lib.hid (s2.out.keep h5)
  go_wp2_with fail
  refine (C6.out _ _ _ s2.out).mono ?_
  rintro e w6 ⟨rfl, h6⟩
  replace s2 := Lib.hid (s2.out.keep h6)
  go_wp2_with fail
  refine (C7.out _ _ _ s2.out).mono ?_
  rintro e w7 ⟨rfl, h7⟩
  go_wp2_with fail
  go_ret
  exact ⟨rfl, (by repeat (first | exact Below.refl _ _ | assumption | refine bel_drew ?_ | refine bel_drewN ?_ _ | refine bel_alloc ?_ _ | refine bel_set ?_ (by first | (dsimp only; omega) | (simp; done) | (simp; omega)) _ | refine bel_trans ?_ (by assumption)))⟩

set_option maxRecDepth 100000 in
set_option maxHeartbeats 8000000 in
theorem law08_SpansFinds (A : Option Addr) (n c : Nat) (l : List PS.Sp) (x n0 n1 : Int) (w : World) (h : SpansAt w A n l) (hx : -9223372036854775808 ≤ x ∧ x ≤ 9223372036854775807) (h0 : -9223372036854775808 ≤ n0 ∧ n0 ≤ 9223372036854775807) (h1 : -9223372036854775808 ≤ n1 ∧ n1 ≤ 9223372036854775807) :
    Calls Try.prog 5 #[.slice A n c, .int .i64 x, .agg #[.int .i64 n0, .int .i64 n1]] w fun e w' => e = .returned (.bool true) ∧ Below w.heap.size w w' := by
  have hn := h.2.1
  by_cases hbig : (40 : Int) < n
  · clear h
    go_enter Try.func5, Try.ntmps5
    go_wp2_with fail
    refine (law08_works _).mono ?_
    rintro e w5 ⟨rfl, h5⟩
    go_wp2_with fail
    go_ret
    exact ⟨rfl, (by repeat (first | exact Below.refl _ _ | assumption | refine bel_drew ?_ | refine bel_drewN ?_ _ | refine bel_alloc ?_ _ | refine bel_set ?_ (by first | (dsimp only; omega) | (simp; done) | (simp; omega)) _ | refine bel_trans ?_ (by assumption)))⟩
  · replace hbig : (n : Int) ≤ 40 := by omega
    have K1 := fun W (hW : Below w.heap.size w W) => spans_Find c x (h.keep hW) hx.2
    have K2 := fun W (hW : Below w.heap.size w W) => ref08_Find c x (h.keep hW) hx.2
    have K3 := fun W (hW : Below w.heap.size w W) => spans_Total c (h.keep hW)
    have K4 := fun W (hW : Below w.heap.size w W) => ref08_Total c (h.keep hW)
    have K5 := fun W (hW : Below w.heap.size w W) => spans_Gap c n0 n1 (h.keep hW) h0 h1
    have K6 := fun W (hW : Below w.heap.size w W) => ref08_Gap c n0 n1 (h.keep hW) h0 h1
    generalize PS.find l x = r1 at *
    generalize PS.total l = r2 at *
    generalize PS.gap l n0 n1 = r3 at *
    replace K1 := Lib.hid K1
    replace K2 := Lib.hid K2
    replace K3 := Lib.hid K3
    replace K4 := Lib.hid K4
    replace K5 := Lib.hid K5
    replace K6 := Lib.hid K6
    obtain ⟨w0, hw0⟩ : ∃ w0, w.alloc (.cells #[.int .i64 n0, .int .i64 n1] 31) = w0 := ⟨_, rfl⟩
    have hB0 : Below w.heap.size w w0 := by rw [← hw0]; exact bel_alloc (Below.refl _ _) _
    have d0 : w0.cell? ⟨w.heap.size, 0, none⟩ = some (.int .i64 n0) := by rw [← hw0]; simp [go_sem]
    have d1 : w0.cell? ⟨w.heap.size, 1, none⟩ = some (.int .i64 n1) := by rw [← hw0]; simp [go_sem]
    have ds : w.heap.size < w0.heap.size := by rw [← hw0]; simp
    obtain ⟨bs, hbs⟩ : ∃ bs, w.heap.size = bs := ⟨_, rfl⟩
    have KS : Hid (∀ w', Below w0.heap.size w0 w' → (Below w.heap.size w w' ∧ Below w0.heap.size w0 w' ∧ w'.cell? ⟨bs, 0, none⟩ = some (.int .i64 n0) ∧ w'.cell? ⟨bs, 1, none⟩ = some (.int .i64 n1))) := Lib.hid (fun w' hb => ⟨bel_trans hB0 hb, hb, by rw [← hbs]; exact cell_after hb ds d0, by rw [← hbs]; exact cell_after hb ds d1⟩)
    replace hB0 := Lib.hid hB0
    replace hw0 := Lib.hid hw0
    replace hbs := Lib.hid hbs
    clear h d0 d1 ds
    go_enter Try.func5, Try.ntmps5
    go_wp2_with fail
    rw [hw0.out, hbs.out]
    refine wp_region_held_drew (S := (fun w' => Below w.heap.size w w' ∧ Below w0.heap.size w0 w' ∧ w'.cell? ⟨bs, 0, none⟩ = some (.int .i64 n0) ∧ w'.cell? ⟨bs, 1, none⟩ = some (.int .i64 n1))) (by kernel_rfl) ?_ (fun hHeld => ?_)
    focus ((try dsimp only); exact KS.out _ (by first | exact Below.refl _ _ | exact bel_drew (Below.refl _ _) | exact bel_trans hHeld.2.1 (by assumption)))
    refine tk_yes 0 (v := ?_) rfl (by kernel_rfl) (by kernel_rfl) (by kernel_rfl) (fun _ _ _ h => h) (by kernel_rfl) (by assumption) ?_ ?_; rotate_left; (focus (intro w hSw; (try dsimp only at hSw); go_simp; (first | done | (with_reducible rfl)))); (try simp only [Act.put, List.setIfInBounds_toArray, List.set_cons_zero, List.set_cons_succ])
    refine tk_yes 1 (v := ?_) rfl (by kernel_rfl) (by kernel_rfl) (by kernel_rfl) (fun _ _ _ h => h) (by kernel_rfl) (by assumption) ?_ ?_; rotate_left; (focus (intro w hSw; (try dsimp only at hSw); go_simp; (first | done | (with_reducible rfl)))); (try simp only [Act.put, List.setIfInBounds_toArray, List.set_cons_zero, List.set_cons_succ])
    refine tk_yes 3 (v := ?_) rfl (by kernel_rfl) (by kernel_rfl) (by kernel_rfl) (fun _ _ _ h => h) (by kernel_rfl) (by assumption) ?_ ?_; rotate_left; (focus (intro w hSw; (try dsimp only at hSw); go_simp; (first | done | (with_reducible rfl)))); (try simp only [Act.put, List.setIfInBounds_toArray, List.set_cons_zero, List.set_cons_succ])
    refine tk_yes 4 (v := ?_) rfl (by kernel_rfl) (by kernel_rfl) (by kernel_rfl) (fun _ _ _ h => h) (by kernel_rfl) (by assumption) ?_ ?_; rotate_left; (focus (intro w hSw; (try dsimp only at hSw); go_simp; (first | done | (with_reducible rfl)))); (try simp only [Act.put, List.setIfInBounds_toArray, List.set_cons_zero, List.set_cons_succ])
    refine tk_call 2 rfl (by kernel_rfl) (by kernel_rfl) (fun KW hKW => ?_); go_simp; go_at_call 22; refine (K1.out _ hHeld.1).mono ?_; rintro e y1 ⟨rfl, h1⟩; dsimp only; refine hKW.out _ _ ?_ (fun hHeld => ?_); (focus ((try dsimp only); exact KS.out _ (by first | exact Below.refl _ _ | exact bel_drew (Below.refl _ _) | exact bel_trans hHeld.2.1 (by assumption)))); clear hKW KW; (try simp only [Act.put, List.setIfInBounds_toArray, List.set_cons_zero, List.set_cons_succ])
    refine tk_call 5 rfl (by kernel_rfl) (by kernel_rfl) (fun KW hKW => ?_); go_simp; go_at_call 23; refine (K2.out _ hHeld.1).mono ?_; rintro e y2 ⟨rfl, h2⟩; dsimp only; refine hKW.out _ _ ?_ (fun hHeld => ?_); (focus ((try dsimp only); exact KS.out _ (by first | exact Below.refl _ _ | exact bel_drew (Below.refl _ _) | exact bel_trans hHeld.2.1 (by assumption)))); clear hKW KW; (try simp only [Act.put, List.setIfInBounds_toArray, List.set_cons_zero, List.set_cons_succ])
    refine tk_yes 6 (v := ?_) rfl (by kernel_rfl) (by kernel_rfl) (by kernel_rfl) (fun _ _ _ h => h) (by kernel_rfl) (by assumption) ?_ ?_; rotate_left; (focus (intro w hSw; (try dsimp only at hSw); go_simp; (first | done | (with_reducible rfl)))); (try simp only [Act.put, List.setIfInBounds_toArray, List.set_cons_zero, List.set_cons_succ])
    refine tk_yes 7 (v := ?_) rfl (by kernel_rfl) (by kernel_rfl) (by kernel_rfl) (fun _ _ _ h => h) (by kernel_rfl) (by assumption) ?_ ?_; rotate_left; (focus (intro w hSw; (try dsimp only at hSw); go_simp; (first | done | (with_reducible rfl)))); (try simp only [Act.put, List.setIfInBounds_toArray, List.set_cons_zero, List.set_cons_succ])
    refine tk_yes 8 (v := ?_) rfl (by kernel_rfl) (by kernel_rfl) (by kernel_rfl) (fun _ _ _ h => h) (by kernel_rfl) (by assumption) ?_ ?_; rotate_left; (focus (intro w hSw; (try dsimp only at hSw); go_simp; (first | done | (with_reducible rfl)))); (try simp only [Act.put, List.setIfInBounds_toArray, List.set_cons_zero, List.set_cons_succ])
    refine tk_yes 10 (v := ?_) rfl (by kernel_rfl) (by kernel_rfl) (by kernel_rfl) (fun _ _ _ h => h) (by kernel_rfl) (by assumption) ?_ ?_; rotate_left; (focus (intro w hSw; (try dsimp only at hSw); go_simp; (first | done | (with_reducible rfl)))); (try simp only [Act.put, List.setIfInBounds_toArray, List.set_cons_zero, List.set_cons_succ])
    refine tk_call 9 rfl (by kernel_rfl) (by kernel_rfl) (fun KW hKW => ?_); go_simp; go_at_call 24; refine (K3.out _ hHeld.1).mono ?_; rintro e y3 ⟨rfl, h3⟩; dsimp only; refine hKW.out _ _ ?_ (fun hHeld => ?_); (focus ((try dsimp only); exact KS.out _ (by first | exact Below.refl _ _ | exact bel_drew (Below.refl _ _) | exact bel_trans hHeld.2.1 (by assumption)))); clear hKW KW; (try simp only [Act.put, List.setIfInBounds_toArray, List.set_cons_zero, List.set_cons_succ])
    refine tk_call 11 rfl (by kernel_rfl) (by kernel_rfl) (fun KW hKW => ?_); go_simp; go_at_call 25; refine (K4.out _ hHeld.1).mono ?_; rintro e y4 ⟨rfl, h4⟩; dsimp only; refine hKW.out _ _ ?_ (fun hHeld => ?_); (focus ((try dsimp only); exact KS.out _ (by first | exact Below.refl _ _ | exact bel_drew (Below.refl _ _) | exact bel_trans hHeld.2.1 (by assumption)))); clear hKW KW; (try simp only [Act.put, List.setIfInBounds_toArray, List.set_cons_zero, List.set_cons_succ])
    refine tk_yes 12 (v := ?_) rfl (by kernel_rfl) (by kernel_rfl) (by kernel_rfl) (fun _ _ _ h => h) (by kernel_rfl) (by assumption) ?_ ?_; rotate_left; (focus (intro w hSw; (try dsimp only at hSw); go_simp; (first | done | (with_reducible rfl)))); (try simp only [Act.put, List.setIfInBounds_toArray, List.set_cons_zero, List.set_cons_succ])
    refine tk_yes 13 (v := ?_) rfl (by kernel_rfl) (by kernel_rfl) (by kernel_rfl) (fun _ _ _ h => h) (by kernel_rfl) (by assumption) ?_ ?_; rotate_left; (focus (intro w hSw; (try dsimp only at hSw); go_simp; (first | done | (with_reducible rfl)))); (try simp only [Act.put, List.setIfInBounds_toArray, List.set_cons_zero, List.set_cons_succ])
    refine tk_yes 14 (v := ?_) rfl (by kernel_rfl) (by kernel_rfl) (by kernel_rfl) (fun _ _ _ h => h) (by kernel_rfl) (by assumption) ?_ ?_; rotate_left; (focus (intro w hSw; (try dsimp only at hSw); go_simp; (first | done | (with_reducible rfl)))); (try simp only [Act.put, List.setIfInBounds_toArray, List.set_cons_zero, List.set_cons_succ])
    refine tk_yes 15 (v := ?_) rfl (by kernel_rfl) (by kernel_rfl) (by kernel_rfl) (fun _ _ _ h => h) (by kernel_rfl) (by assumption) ?_ ?_; rotate_left; (focus (intro w hSw; (try dsimp only at hSw); go_simp; (first | done | (with_reducible rfl)))); (try simp only [Act.put, List.setIfInBounds_toArray, List.set_cons_zero, List.set_cons_succ])
    refine tk_yes 16 (v := ?_) rfl (by kernel_rfl) (by kernel_rfl) (by kernel_rfl) (fun _ _ _ h => h) (by kernel_rfl) (by assumption) ?_ ?_; rotate_left; (focus (intro w hSw; (try dsimp only at hSw); go_simp; (first | done | (with_reducible rfl)))); (try simp only [Act.put, List.setIfInBounds_toArray, List.set_cons_zero, List.set_cons_succ])
    refine tk_yes 17 (v := ?_) rfl (by kernel_rfl) (by kernel_rfl) (by kernel_rfl) (fun _ _ _ h => h) (by kernel_rfl) (by assumption) ?_ ?_; rotate_left; (focus (intro w hSw; (try dsimp only at hSw); go_simp; (first | done | (with_reducible rfl)))); (try simp only [Act.put, List.setIfInBounds_toArray, List.set_cons_zero, List.set_cons_succ])
    refine tk_yes 18 (v := ?_) rfl (by kernel_rfl) (by kernel_rfl) (by kernel_rfl) (fun _ _ _ h => h) (by kernel_rfl) (by assumption) ?_ ?_; rotate_left; (focus (intro w hSw; (try dsimp only at hSw); go_simp; (first | done | (with_reducible rfl)))); (try simp only [Act.put, List.setIfInBounds_toArray, List.set_cons_zero, List.set_cons_succ])
    refine tk_yes 19 (v := ?_) rfl (by kernel_rfl) (by kernel_rfl) (by kernel_rfl) (fun _ _ _ h => h) (by kernel_rfl) (by assumption) ?_ ?_; rotate_left; (focus (intro w hSw; (try dsimp only at hSw); go_simp; (first | done | (with_reducible rfl)))); (try simp only [Act.put, List.setIfInBounds_toArray, List.set_cons_zero, List.set_cons_succ])
    refine tk_yes 21 (v := ?_) rfl (by kernel_rfl) (by kernel_rfl) (by kernel_rfl) (fun _ _ _ h => h) (by kernel_rfl) (by assumption) ?_ ?_; rotate_left; (focus (intro w hSw; (try dsimp only at hSw); go_simp; (first | done | (with_reducible rfl)))); (try simp only [Act.put, List.setIfInBounds_toArray, List.set_cons_zero, List.set_cons_succ])
    refine tk_yes 22 (v := ?_) rfl (by kernel_rfl) (by kernel_rfl) (by kernel_rfl) (fun _ _ _ h => h) (by kernel_rfl) (by assumption) ?_ ?_; rotate_left; (focus (intro w hSw; (try dsimp only at hSw); go_simp; (first | done | (with_reducible rfl)))); (try simp only [Act.put, List.setIfInBounds_toArray, List.set_cons_zero, List.set_cons_succ])
    refine tk_yes 23 (v := ?_) rfl (by kernel_rfl) (by kernel_rfl) (by kernel_rfl) (fun _ _ _ h => h) (by kernel_rfl) (by assumption) ?_ ?_; rotate_left; (focus (intro w hSw; (try dsimp only at hSw); go_simp; (first | done | (with_reducible rfl)))); (try simp only [Act.put, List.setIfInBounds_toArray, List.set_cons_zero, List.set_cons_succ])
    refine tk_yes 24 (v := ?_) rfl (by kernel_rfl) (by kernel_rfl) (by kernel_rfl) (fun _ _ _ h => h) (by kernel_rfl) (by assumption) ?_ ?_; rotate_left; (focus (intro w hSw; (try dsimp only at hSw); go_simp; (first | done | (with_reducible rfl)))); (try simp only [Act.put, List.setIfInBounds_toArray, List.set_cons_zero, List.set_cons_succ])
    refine tk_yes 25 (v := ?_) rfl (by kernel_rfl) (by kernel_rfl) (by kernel_rfl) (fun _ _ _ h => h) (by kernel_rfl) (by assumption) ?_ ?_; rotate_left; (focus (intro w hSw; (try dsimp only at hSw); go_simp; (first | done | (with_reducible rfl)))); (try simp only [Act.put, List.setIfInBounds_toArray, List.set_cons_zero, List.set_cons_succ])
    refine tk_call 20 rfl (by kernel_rfl) (by kernel_rfl) (fun KW hKW => ?_); go_simp; go_at_call 26; refine (K5.out _ hHeld.1).mono ?_; rintro e y5 ⟨rfl, h5⟩; dsimp only; refine hKW.out _ _ ?_ (fun hHeld => ?_); (focus ((try dsimp only); exact KS.out _ (by first | exact Below.refl _ _ | exact bel_drew (Below.refl _ _) | exact bel_trans hHeld.2.1 (by assumption)))); clear hKW KW; (try simp only [Act.put, List.setIfInBounds_toArray, List.set_cons_zero, List.set_cons_succ])
    refine tk_call 26 rfl (by kernel_rfl) (by kernel_rfl) (fun KW hKW => ?_); go_simp; go_at_call 27; refine (K6.out _ hHeld.1).mono ?_; rintro e y6 ⟨rfl, h6⟩; dsimp only; refine hKW.out _ _ ?_ (fun hHeld => ?_); (focus ((try dsimp only); exact KS.out _ (by first | exact Below.refl _ _ | exact bel_drew (Below.refl _ _) | exact bel_trans hHeld.2.1 (by assumption)))); clear hKW KW; (try simp only [Act.put, List.setIfInBounds_toArray, List.set_cons_zero, List.set_cons_succ])
    refine tk_yes 27 (v := ?_) rfl (by kernel_rfl) (by kernel_rfl) (by kernel_rfl) (fun _ _ _ h => h) (by kernel_rfl) (by assumption) ?_ ?_; rotate_left; (focus (intro w hSw; (try dsimp only at hSw); go_simp; (first | done | (with_reducible rfl)))); (try simp only [Act.put, List.setIfInBounds_toArray, List.set_cons_zero, List.set_cons_succ])
    refine tk_yes 28 (v := ?_) rfl (by kernel_rfl) (by kernel_rfl) (by kernel_rfl) (fun _ _ _ h => h) (by kernel_rfl) (by assumption) ?_ ?_; rotate_left; (focus (intro w hSw; (try dsimp only at hSw); go_simp; (first | done | (with_reducible rfl)))); (try simp only [Act.put, List.setIfInBounds_toArray, List.set_cons_zero, List.set_cons_succ])
    refine tk_yes 29 (v := ?_) rfl (by kernel_rfl) (by kernel_rfl) (by kernel_rfl) (fun _ _ _ h => h) (by kernel_rfl) (by assumption) ?_ ?_; rotate_left; (focus (intro w hSw; (try dsimp only at hSw); go_simp; (first | done | (with_reducible rfl)))); (try simp only [Act.put, List.setIfInBounds_toArray, List.set_cons_zero, List.set_cons_succ])
    refine tk_call 30 rfl (by kernel_rfl) (by kernel_rfl) (fun KW hKW => ?_); go_simp; go_at_call 21; refine (law08_works _).mono ?_; rintro e y7 ⟨rfl, h7⟩; dsimp only; refine hKW.out _ _ ?_ (fun hHeld => ?_); (focus ((try dsimp only); exact KS.out _ (by first | exact Below.refl _ _ | exact bel_drew (Below.refl _ _) | exact bel_trans hHeld.2.1 (by assumption)))); clear hKW KW; (try simp only [Act.put, List.setIfInBounds_toArray, List.set_cons_zero, List.set_cons_succ])
    refine tk_yes 31 (v := ?_) rfl (by kernel_rfl) (by kernel_rfl) (by kernel_rfl) (fun _ _ _ h => h) (by kernel_rfl) (by assumption) ?_ ?_; rotate_left; (focus (intro w hSw; (try dsimp only at hSw); go_simp; (first | done | (with_reducible rfl)))); (try simp only [Act.put, List.setIfInBounds_toArray, List.set_cons_zero, List.set_cons_succ])
    refine tk_yes 32 (v := ?_) rfl (by kernel_rfl) (by kernel_rfl) (by kernel_rfl) (fun _ _ _ h => h) (by kernel_rfl) (by assumption) ?_ ?_; rotate_left; (focus (intro w hSw; (try dsimp only at hSw); go_simp; (first | done | (with_reducible rfl)))); (try simp only [Act.put, List.setIfInBounds_toArray, List.set_cons_zero, List.set_cons_succ])
    refine wpAnyH_done (by kernel_rfl) ?_ _
    have hfin := bel_trans hB0.out hHeld.2.1
    go_wp2_with fail
    go_ret
    exact ⟨rfl, hfin⟩

set_option maxRecDepth 100000 in
set_option maxHeartbeats 8000000 in
theorem law08_SpansJoins (A : Option Addr) (n c : Nat) (l : List PS.Sp) (x m at_ : Int) (w : World) (h : SpansAt w A n l) (hc : CapOk A n c) (hx : -9223372036854775808 ≤ x ∧ x ≤ 9223372036854775807) (hm : -9223372036854775808 ≤ m ∧ m ≤ 9223372036854775807) :
    Calls Try.prog 6 #[.slice A n c, .agg #[.int .i64 x, .int .i64 m], .int .i64 at_] w fun e w' => e = .returned (.bool true) ∧ Below w.heap.size w w' := by
  have hn := h.2.1
  by_cases hbig : (40 : Int) < n
  · clear h hc
    go_enter Try.func6, Try.ntmps6
    go_wp2_with fail
    refine (law08_works _).mono ?_
    rintro e w5 ⟨rfl, h5⟩
    go_wp2_with fail
    go_ret
    exact ⟨rfl, (by repeat (first | exact Below.refl _ _ | assumption | refine bel_drew ?_ | refine bel_drewN ?_ _ | refine bel_alloc ?_ _ | refine bel_set ?_ (by first | (dsimp only; omega) | (simp; done) | (simp; omega)) _ | refine bel_trans ?_ (by assumption)))⟩
  · replace hbig : (n : Int) ≤ 40 := by omega
    obtain ⟨w0, hw0⟩ : ∃ w0, w.alloc (.cells #[.int .i64 x, .int .i64 m] 37) = w0 := ⟨_, rfl⟩
    have hB0 : Below w.heap.size w w0 := by rw [← hw0]; exact bel_alloc (Below.refl _ _) _
    have d0 : w0.cell? ⟨w.heap.size, 0, none⟩ = some (.int .i64 x) := by rw [← hw0]; simp [go_sem]
    have d1 : w0.cell? ⟨w.heap.size, 1, none⟩ = some (.int .i64 m) := by rw [← hw0]; simp [go_sem]
    have ds : w.heap.size < w0.heap.size := by rw [← hw0]; simp
    have h' := h.keep hB0
    have hn' : n ≤ 1000 := by omega
    have K1 := fun W (hW : Below w0.heap.size w0 W) => (spans_Add (x, m) (h'.keep hW) hc hn' ⟨hx, hm⟩).mono fun e w' g => g.lit (ins_bd h.2.2.1 ⟨hx, hm⟩) rfl rfl rfl
    have K2 := fun W (hW : Below w0.heap.size w0 W) => (ref08_Add c (x, m) (h'.keep hW) hn' ⟨hx, hm⟩).mono fun e w' g => g.lit (ins_bd h.2.2.1 ⟨hx, hm⟩) rfl rfl rfl
    have K3 := fun W (hW : Below w0.heap.size w0 W) => (spans_Drop at_ (h'.keep hW) hc hn').mono fun e w' g => g.lit (del_bd h.2.2.1) rfl rfl rfl
    have K4 := fun W (hW : Below w0.heap.size w0 W) => (ref08_Drop c at_ (h'.keep hW) hn').mono fun e w' g => g.lit (del_bd h.2.2.1) rfl rfl rfl
    have K5 := fun W (hW : Below w0.heap.size w0 W) => spans_Right c (h'.keep hW)
    have K6 := fun W (hW : Below w0.heap.size w0 W) => ref08_Right c (h'.keep hW)
    have K7 : ∀ W A' B' c' d' (k : Nat) (z : List PS.Sp), SpansAt W A' k z → SpansAt W B' k z → Calls Try.prog 34 #[.slice A' k c', .slice B' k d'] W fun e w' => e = .returned (.bool true) ∧ Below W.heap.size W w' := fun W A' B' c' d' k z h1 h2 => by
      have := base_SameSpans c' d' h1 h2
      rwa [decide_eq_true rfl] at this
    unfold spV at K1 K2
    dsimp only at K1 K2
    generalize PS.addL l (x, m) = L1 at *
    generalize PS.addB l (x, m) = B1 at *
    generalize PS.dropL l at_ = L2 at *
    generalize PS.dropB l at_ = B2 at *
    generalize L1.length = n1 at *
    generalize L2.length = n2 at *
    obtain ⟨R, hR⟩ : ∃ R, PS.right l = R := ⟨_, rfl⟩
    rw [hR] at K5 K6
    obtain ⟨bs, hbs⟩ : ∃ bs, w.heap.size = bs := ⟨_, rfl⟩
    have D0 : Hid (w0.cell? ⟨bs, 0, none⟩ = some (.int .i64 x)) := Lib.hid (by rw [← hbs]; exact d0)
    have D1 : Hid (w0.cell? ⟨bs, 1, none⟩ = some (.int .i64 m)) := Lib.hid (by rw [← hbs]; exact d1)
    have DS : Hid (bs < w0.heap.size) := Lib.hid (by rw [← hbs]; exact ds)
    have HSZ : Hid (w.heap.size ≤ w0.heap.size) := Lib.hid (by omega)
    replace K1 := Lib.hid K1
    replace K2 := Lib.hid K2
    replace K3 := Lib.hid K3
    replace K4 := Lib.hid K4
    replace K5 := Lib.hid K5
    replace K6 := Lib.hid K6
    replace K7 := Lib.hid K7
    replace hB0 := Lib.hid hB0
    replace hw0 := Lib.hid hw0
    replace hbs := Lib.hid hbs
    replace h' := Lib.hid h'
    have HLn := Lib.hid h.1
    clear h d0 d1 ds hR hc
    go_enter Try.func6, Try.ntmps6
    go_wp2_with fail
    rw [hw0.out, hbs.out]
    have e0 := D0.out
    have e1 := D1.out
    refine (K1.out _ (by repeat (first | exact Below.refl _ _ | assumption | refine bel_drew ?_ | refine bel_drewN ?_ _ | refine bel_alloc ?_ _ | refine bel_set ?_ (by first | (dsimp only; omega) | (simp; done) | (simp; omega)) _ | refine bel_trans ?_ (by assumption)))).mono ?_
    rintro e w1 ⟨A1, c1, rfl, s1, -, g1⟩
    replace s1 := Lib.hid s1
    have z1 : bs < w1.heap.size := Nat.lt_of_lt_of_le DS.out g1.size
    have e10 := cell_after g1 DS.out e0
    have e11 := cell_after g1 DS.out e1
    go_wp2_with fail
    refine (K2.out _ (by repeat (first | exact Below.refl _ _ | assumption | refine bel_drew ?_ | refine bel_drewN ?_ _ | refine bel_alloc ?_ _ | refine bel_set ?_ (by first | (dsimp only; omega) | (simp; done) | (simp; omega)) _ | refine bel_trans ?_ (by assumption)))).mono ?_
    rintro e w2 ⟨A2, c2, rfl, s2, -, g2⟩
    replace s1 := Lib.hid (s1.out.keep g2)
    replace s2 := Lib.hid s2
    have z2 : bs < w2.heap.size := Nat.lt_of_lt_of_le z1 g2.size
    have e20 := cell_after g2 z1 e10
    have e21 := cell_after g2 z1 e11
    go_wp2_with fail
    refine (K3.out _ (by repeat (first | exact Below.refl _ _ | assumption | refine bel_drew ?_ | refine bel_drewN ?_ _ | refine bel_alloc ?_ _ | refine bel_set ?_ (by first | (dsimp only; omega) | (simp; done) | (simp; omega)) _ | refine bel_trans ?_ (by assumption)))).mono ?_
    rintro e w3 ⟨A3, c3, rfl, s3, -, g3⟩
    replace s1 := Lib.hid (s1.out.keep g3)
    replace s2 := Lib.hid (s2.out.keep g3)
    replace s3 := Lib.hid s3
    go_wp2_with fail
    refine (K4.out _ (by repeat (first | exact Below.refl _ _ | assumption | refine bel_drew ?_ | refine bel_drewN ?_ _ | refine bel_alloc ?_ _ | refine bel_set ?_ (by first | (dsimp only; omega) | (simp; done) | (simp; omega)) _ | refine bel_trans ?_ (by assumption)))).mono ?_
    rintro e w4 ⟨A4, c4, rfl, s4, -, g4⟩
    replace s1 := Lib.hid (s1.out.keep g4)
    replace s2 := Lib.hid (s2.out.keep g4)
    replace s3 := Lib.hid (s3.out.keep g4)
    replace s4 := Lib.hid s4
    go_wp2_with fail
    refine (K5.out _ (by repeat (first | exact Below.refl _ _ | assumption | refine bel_drew ?_ | refine bel_drewN ?_ _ | refine bel_alloc ?_ _ | refine bel_set ?_ (by first | (dsimp only; omega) | (simp; done) | (simp; omega)) _ | refine bel_trans ?_ (by assumption)))).mono ?_
    rintro e w5 ⟨rfl, g5⟩
    replace s1 := Lib.hid (s1.out.keep g5)
    replace s2 := Lib.hid (s2.out.keep g5)
    replace s3 := Lib.hid (s3.out.keep g5)
    replace s4 := Lib.hid (s4.out.keep g5)
    go_wp2_with fail
    refine (K6.out _ (by repeat (first | exact Below.refl _ _ | assumption | refine bel_drew ?_ | refine bel_drewN ?_ _ | refine bel_alloc ?_ _ | refine bel_set ?_ (by first | (dsimp only; omega) | (simp; done) | (simp; omega)) _ | refine bel_trans ?_ (by assumption)))).mono ?_
    rintro e w6 ⟨rfl, g6⟩
    replace s1 := Lib.hid (s1.out.keep g6)
    replace s2 := Lib.hid (s2.out.keep g6)
    replace s3 := Lib.hid (s3.out.keep g6)
    replace s4 := Lib.hid (s4.out.keep g6)
    go_wp2_with fail
    refine (K7.out _ _ _ _ _ _ _ s1.out s2.out).mono ?_
    rintro e w7 ⟨rfl, g7⟩
    replace s3 := Lib.hid (s3.out.keep g7)
    replace s4 := Lib.hid (s4.out.keep g7)
    go_wp2_with fail
    refine (K7.out _ _ _ _ _ _ _ s3.out s4.out).mono ?_
    rintro e w8 ⟨rfl, g8⟩
    have hbig5 : Below w0.heap.size w0 w8 := (by repeat (first | exact Below.refl _ _ | assumption | refine bel_drew ?_ | refine bel_drewN ?_ _ | refine bel_alloc ?_ _ | refine bel_set ?_ (by first | (dsimp only; omega) | (simp; done) | (simp; omega)) _ | refine bel_trans ?_ (by assumption)))
    clear g1 g2 g3 g4 g5 g6 g7 g8 e10 e11 e20 e21 z1 z2 s1 s2 s3 s4
    replace hbig5 := Lib.hid hbig5
    by_cases hn0 : 0 < n
    · obtain ⟨b, off, rfl, -, -⟩ := h'.out.2.2.2 hn0
      obtain ⟨y, q, hs, -, -, by1, bq1⟩ := h'.out.row (Below.refl _ _) hn0
      have hkl : 0 < l.length := by have := HLn.out; omega
      have M1 := fun W => spans_Meet (y, q) (x, m) W ⟨by1, bq1⟩ ⟨hx, hm⟩
      have M2 := fun W => ref08_Meet (y, q) (x, m) W ⟨by1, bq1⟩ ⟨hx, hm⟩
      unfold spV at M1 M2
      dsimp only at M1 M2
      generalize PS.meet (y, q) (x, m) = mm at *
      replace M1 := Lib.hid M1
      replace M2 := Lib.hid M2
      have KS : Hid (∀ w', Below w0.heap.size w0 w' → (Below w0.heap.size w0 w' ∧ w'.cell? ⟨bs, 0, none⟩ = some (.int .i64 x) ∧ w'.cell? ⟨bs, 1, none⟩ = some (.int .i64 m) ∧ w'.cell? ⟨b, off, none⟩ = some (.int .i64 y) ∧ w'.cell? ⟨b, off + 1, none⟩ = some (.int .i64 q))) := Lib.hid (fun w' hb => by
        obtain ⟨y', q', hs', z0, z1, -, -⟩ := h'.out.row hb hn0
        have e := (hs' hkl).symm.trans (hs hkl)
        obtain ⟨rfl, rfl⟩ := Prod.mk.inj e
        exact ⟨hb, cell_after hb DS.out D0.out, cell_after hb DS.out D1.out, by simpa using z0, by simpa using z1⟩)
      have hin : (0 : Int) < n := by omega
      have hne : ((n : Int) == 0) = false := by simp; omega
      clear hs
      go_wp2_with fail
      have hbig5 := hbig5.out
      refine wp_region_held_drew (S := (fun w' => Below w0.heap.size w0 w' ∧ w'.cell? ⟨bs, 0, none⟩ = some (.int .i64 x) ∧ w'.cell? ⟨bs, 1, none⟩ = some (.int .i64 m) ∧ w'.cell? ⟨b, off, none⟩ = some (.int .i64 y) ∧ w'.cell? ⟨b, off + 1, none⟩ = some (.int .i64 q))) (by kernel_rfl) ?_ (fun hHeld => ?_)
      focus ((try dsimp only); exact KS.out _ (by first | exact bel_drew hbig5 | exact bel_trans hHeld.1 (by assumption)))
      refine tk_yes 0 (v := ?_) rfl (by kernel_rfl) (by kernel_rfl) (by kernel_rfl) (fun _ _ _ h => h) (by kernel_rfl) (by assumption) ?_ ?_; rotate_left; (focus (intro w hSw; (try dsimp only at hSw); go_simp; (first | done | (with_reducible rfl)))); (try simp only [Act.put, List.setIfInBounds_toArray, List.set_cons_zero, List.set_cons_succ])
      refine tk_yes 1 (v := ?_) rfl (by kernel_rfl) (by kernel_rfl) (by kernel_rfl) (fun _ _ _ h => h) (by kernel_rfl) (by assumption) ?_ ?_; rotate_left; (focus (intro w hSw; (try dsimp only at hSw); go_simp; (first | done | (with_reducible rfl)))); (try simp only [Act.put, List.setIfInBounds_toArray, List.set_cons_zero, List.set_cons_succ])
      refine tk_yes 2 (v := ?_) rfl (by kernel_rfl) (by kernel_rfl) (by kernel_rfl) (fun _ _ _ h => h) (by kernel_rfl) (by assumption) ?_ ?_; rotate_left; (focus (intro w hSw; (try dsimp only at hSw); go_simp; (first | done | (with_reducible rfl)))); (try simp only [Act.put, List.setIfInBounds_toArray, List.set_cons_zero, List.set_cons_succ])
      refine tk_yes 3 (v := ?_) rfl (by kernel_rfl) (by kernel_rfl) (by kernel_rfl) (fun _ _ _ h => h) (by kernel_rfl) (by assumption) ?_ ?_; rotate_left; (focus (intro w hSw; (try dsimp only at hSw); go_simp; (first | done | (with_reducible rfl)))); (try simp only [Act.put, List.setIfInBounds_toArray, List.set_cons_zero, List.set_cons_succ])
      refine tk_yes 4 (v := ?_) rfl (by kernel_rfl) (by kernel_rfl) (by kernel_rfl) (fun _ _ _ h => h) (by kernel_rfl) (by assumption) ?_ ?_; rotate_left; (focus (intro w hSw; (try dsimp only at hSw); go_simp; (first | done | (with_reducible rfl)))); (try simp only [Act.put, List.setIfInBounds_toArray, List.set_cons_zero, List.set_cons_succ])
      refine tk_yes 5 (v := ?_) rfl (by kernel_rfl) (by kernel_rfl) (by kernel_rfl) (fun _ _ _ h => h) (by kernel_rfl) (by assumption) ?_ ?_; rotate_left; (focus (intro w hSw; (try dsimp only at hSw); go_simp; (first | done | (with_reducible rfl)))); (try simp only [Act.put, List.setIfInBounds_toArray, List.set_cons_zero, List.set_cons_succ])
      refine tk_yes 6 (v := ?_) rfl (by kernel_rfl) (by kernel_rfl) (by kernel_rfl) (fun _ _ _ h => h) (by kernel_rfl) (by assumption) ?_ ?_; rotate_left; (focus (intro w hSw; (try dsimp only at hSw); go_simp; (first | done | (with_reducible rfl)))); (try simp only [Act.put, List.setIfInBounds_toArray, List.set_cons_zero, List.set_cons_succ])
      refine tk_yes 7 (v := ?_) rfl (by kernel_rfl) (by kernel_rfl) (by kernel_rfl) (fun _ _ _ h => h) (by kernel_rfl) (by assumption) ?_ ?_; rotate_left; (focus (intro w hSw; (try dsimp only at hSw); go_simp; (first | done | (with_reducible rfl)))); (try simp only [Act.put, List.setIfInBounds_toArray, List.set_cons_zero, List.set_cons_succ])
      refine tk_yes 9 (v := ?_) rfl (by kernel_rfl) (by kernel_rfl) (by kernel_rfl) (fun _ _ _ h => h) (by kernel_rfl) (by assumption) ?_ ?_; rotate_left; (focus (intro w hSw; (try dsimp only at hSw); go_simp; (first | done | (with_reducible rfl)))); (try simp only [Act.put, List.setIfInBounds_toArray, List.set_cons_zero, List.set_cons_succ])
      refine tk_yes 10 (v := ?_) rfl (by kernel_rfl) (by kernel_rfl) (by kernel_rfl) (fun _ _ _ h => h) (by kernel_rfl) (by assumption) ?_ ?_; rotate_left; (focus (intro w hSw; (try dsimp only at hSw); go_simp; (first | done | (with_reducible rfl)))); (try simp only [Act.put, List.setIfInBounds_toArray, List.set_cons_zero, List.set_cons_succ])
      refine tk_yes 11 (v := ?_) rfl (by kernel_rfl) (by kernel_rfl) (by kernel_rfl) (fun _ _ _ h => h) (by kernel_rfl) (by assumption) ?_ ?_; rotate_left; (focus (intro w hSw; (try dsimp only at hSw); go_simp; (first | done | (with_reducible rfl)))); (try simp only [Act.put, List.setIfInBounds_toArray, List.set_cons_zero, List.set_cons_succ])
      refine tk_yes 12 (v := ?_) rfl (by kernel_rfl) (by kernel_rfl) (by kernel_rfl) (fun _ _ _ h => h) (by kernel_rfl) (by assumption) ?_ ?_; rotate_left; (focus (intro w hSw; (try dsimp only at hSw); go_simp; (first | done | (with_reducible rfl)))); (try simp only [Act.put, List.setIfInBounds_toArray, List.set_cons_zero, List.set_cons_succ])
      refine tk_call 8 rfl (by kernel_rfl) (by kernel_rfl) (fun KW hKW => ?_); go_simp; go_at_call 35; refine (M1.out _).mono ?_; rintro e y1 ⟨rfl, hy1⟩; dsimp only; refine hKW.out _ _ ?_ (fun hHeld => ?_); (focus ((try dsimp only); exact KS.out _ (by first | exact bel_drew hbig5 | exact bel_trans hHeld.1 (by assumption)))); clear hKW KW; (try simp only [Act.put, List.setIfInBounds_toArray, List.set_cons_zero, List.set_cons_succ])
      refine tk_call 13 rfl (by kernel_rfl) (by kernel_rfl) (fun KW hKW => ?_); go_simp; go_at_call 36; refine (M2.out _).mono ?_; rintro e y2 ⟨rfl, hy2⟩; dsimp only; refine hKW.out _ _ ?_ (fun hHeld => ?_); (focus ((try dsimp only); exact KS.out _ (by first | exact bel_drew hbig5 | exact bel_trans hHeld.1 (by assumption)))); clear hKW KW; (try simp only [Act.put, List.setIfInBounds_toArray, List.set_cons_zero, List.set_cons_succ])
      refine tk_yes 14 (v := ?_) rfl (by kernel_rfl) (by kernel_rfl) (by kernel_rfl) (fun _ _ _ h => h) (by kernel_rfl) (by assumption) ?_ ?_; rotate_left; (focus (intro w hSw; (try dsimp only at hSw); go_simp; (first | done | (with_reducible rfl)))); (try simp only [Act.put, List.setIfInBounds_toArray, List.set_cons_zero, List.set_cons_succ])
      refine tk_yes 15 (v := ?_) rfl (by kernel_rfl) (by kernel_rfl) (by kernel_rfl) (fun _ _ _ h => h) (by kernel_rfl) (by assumption) ?_ ?_; rotate_left; (focus (intro w hSw; (try dsimp only at hSw); go_simp; (first | done | (with_reducible rfl)))); (try simp only [Act.put, List.setIfInBounds_toArray, List.set_cons_zero, List.set_cons_succ])
      refine tk_yes 16 (v := ?_) rfl (by kernel_rfl) (by kernel_rfl) (by kernel_rfl) (fun _ _ _ h => h) (by kernel_rfl) (by assumption) ?_ ?_; rotate_left; (focus (intro w hSw; (try dsimp only at hSw); go_simp; (first | done | (with_reducible rfl)))); (try simp only [Act.put, List.setIfInBounds_toArray, List.set_cons_zero, List.set_cons_succ])
      refine tk_call 17 rfl (by kernel_rfl) (by kernel_rfl) (fun KW hKW => ?_); go_simp; go_at_call 21; refine (law08_works _).mono ?_; rintro e y3 ⟨rfl, h3'⟩; dsimp only; refine hKW.out _ _ ?_ (fun hHeld => ?_); (focus ((try dsimp only); exact KS.out _ (by first | exact bel_drew hbig5 | exact bel_trans hHeld.1 (by assumption)))); clear hKW KW; (try simp only [Act.put, List.setIfInBounds_toArray, List.set_cons_zero, List.set_cons_succ])
      refine tk_yes 18 (v := ?_) rfl (by kernel_rfl) (by kernel_rfl) (by kernel_rfl) (fun _ _ _ h => h) (by kernel_rfl) (by assumption) ?_ ?_; rotate_left; (focus (intro w hSw; (try dsimp only at hSw); go_simp; (first | done | (with_reducible rfl)))); (try simp only [Act.put, List.setIfInBounds_toArray, List.set_cons_zero, List.set_cons_succ])
      refine tk_yes 19 (v := ?_) rfl (by kernel_rfl) (by kernel_rfl) (by kernel_rfl) (fun _ _ _ h => h) (by kernel_rfl) (by assumption) ?_ ?_; rotate_left; (focus (intro w hSw; (try dsimp only at hSw); go_simp; (first | done | (with_reducible rfl)))); (try simp only [Act.put, List.setIfInBounds_toArray, List.set_cons_zero, List.set_cons_succ])
      refine wpAnyH_done (by kernel_rfl) ?_ _
      have hfin := bel_trans' hB0.out hHeld.1 HSZ.out
      go_wp2_with fail
      go_ret
      exact ⟨rfl, hfin⟩
    · obtain rfl : n = 0 := by omega
      have KS : Hid (∀ w', Below w0.heap.size w0 w' → (Below w0.heap.size w0 w' ∧ w'.cell? ⟨bs, 0, none⟩ = some (.int .i64 x) ∧ w'.cell? ⟨bs, 1, none⟩ = some (.int .i64 m))) := Lib.hid (fun w' hb => ⟨hb, cell_after hb DS.out D0.out, cell_after hb DS.out D1.out⟩)
      go_wp2_with fail
      have hbig5 := hbig5.out
      refine wp_region_held_drew (S := (fun w' => Below w0.heap.size w0 w' ∧ w'.cell? ⟨bs, 0, none⟩ = some (.int .i64 x) ∧ w'.cell? ⟨bs, 1, none⟩ = some (.int .i64 m))) (by kernel_rfl) ?_ (fun hHeld => ?_)
      focus ((try dsimp only); exact KS.out _ (by first | exact bel_drew hbig5 | exact bel_trans hHeld.1 (by assumption)))
      refine tk_yes 0 (v := ?_) rfl (by kernel_rfl) (by kernel_rfl) (by kernel_rfl) (fun _ _ _ h => h) (by kernel_rfl) (by assumption) ?_ ?_; rotate_left; (focus (intro w hSw; (try dsimp only at hSw); go_simp; (first | done | (with_reducible rfl)))); (try simp only [Act.put, List.setIfInBounds_toArray, List.set_cons_zero, List.set_cons_succ])
      refine tk_yes 1 (v := ?_) rfl (by kernel_rfl) (by kernel_rfl) (by kernel_rfl) (fun _ _ _ h => h) (by kernel_rfl) (by assumption) ?_ ?_; rotate_left; (focus (intro w hSw; (try dsimp only at hSw); go_simp; (first | done | (with_reducible rfl)))); (try simp only [Act.put, List.setIfInBounds_toArray, List.set_cons_zero, List.set_cons_succ])
      refine tk_yes 2 (v := ?_) rfl (by kernel_rfl) (by kernel_rfl) (by kernel_rfl) (fun _ _ _ h => h) (by kernel_rfl) (by assumption) ?_ ?_; rotate_left; (focus (intro w hSw; (try dsimp only at hSw); go_simp; (first | done | (with_reducible rfl)))); (try simp only [Act.put, List.setIfInBounds_toArray, List.set_cons_zero, List.set_cons_succ])
      refine tk_yes 3 (v := ?_) rfl (by kernel_rfl) (by kernel_rfl) (by kernel_rfl) (fun _ _ _ h => h) (by kernel_rfl) (by assumption) ?_ ?_; rotate_left; (focus (intro w hSw; (try dsimp only at hSw); go_simp; (first | done | (with_reducible rfl)))); (try simp only [Act.put, List.setIfInBounds_toArray, List.set_cons_zero, List.set_cons_succ])
      refine tk_no 4 rfl (by kernel_rfl) (by kernel_rfl) (by kernel_rfl) (fun _ _ _ h => h) (by kernel_rfl) (by assumption) ?_; (try simp only [Act.put, List.setIfInBounds_toArray, List.set_cons_zero, List.set_cons_succ])
      refine tk_no 5 rfl (by kernel_rfl) (by kernel_rfl) (by kernel_rfl) (fun _ _ _ h => h) (by kernel_rfl) (by assumption) ?_; (try simp only [Act.put, List.setIfInBounds_toArray, List.set_cons_zero, List.set_cons_succ])
      refine tk_no 6 rfl (by kernel_rfl) (by kernel_rfl) (by kernel_rfl) (fun _ _ _ h => h) (by kernel_rfl) (by assumption) ?_; (try simp only [Act.put, List.setIfInBounds_toArray, List.set_cons_zero, List.set_cons_succ])
      refine tk_no 7 rfl (by kernel_rfl) (by kernel_rfl) (by kernel_rfl) (fun _ _ _ h => h) (by kernel_rfl) (by assumption) ?_; (try simp only [Act.put, List.setIfInBounds_toArray, List.set_cons_zero, List.set_cons_succ])
      refine tk_no 9 rfl (by kernel_rfl) (by kernel_rfl) (by kernel_rfl) (fun _ _ _ h => h) (by kernel_rfl) (by assumption) ?_; (try simp only [Act.put, List.setIfInBounds_toArray, List.set_cons_zero, List.set_cons_succ])
      refine tk_no 10 rfl (by kernel_rfl) (by kernel_rfl) (by kernel_rfl) (fun _ _ _ h => h) (by kernel_rfl) (by assumption) ?_; (try simp only [Act.put, List.setIfInBounds_toArray, List.set_cons_zero, List.set_cons_succ])
      refine tk_no 11 rfl (by kernel_rfl) (by kernel_rfl) (by kernel_rfl) (fun _ _ _ h => h) (by kernel_rfl) (by assumption) ?_; (try simp only [Act.put, List.setIfInBounds_toArray, List.set_cons_zero, List.set_cons_succ])
      refine tk_no 12 rfl (by kernel_rfl) (by kernel_rfl) (by kernel_rfl) (fun _ _ _ h => h) (by kernel_rfl) (by assumption) ?_; (try simp only [Act.put, List.setIfInBounds_toArray, List.set_cons_zero, List.set_cons_succ])
      refine tk_no 8 rfl (by kernel_rfl) (by kernel_rfl) (by kernel_rfl) (fun _ _ _ h => h) (by kernel_rfl) (by assumption) ?_; (try simp only [Act.put, List.setIfInBounds_toArray, List.set_cons_zero, List.set_cons_succ])
      refine tk_no 13 rfl (by kernel_rfl) (by kernel_rfl) (by kernel_rfl) (fun _ _ _ h => h) (by kernel_rfl) (by assumption) ?_; (try simp only [Act.put, List.setIfInBounds_toArray, List.set_cons_zero, List.set_cons_succ])
      refine tk_no 14 rfl (by kernel_rfl) (by kernel_rfl) (by kernel_rfl) (fun _ _ _ h => h) (by kernel_rfl) (by assumption) ?_; (try simp only [Act.put, List.setIfInBounds_toArray, List.set_cons_zero, List.set_cons_succ])
      refine tk_yes 15 (v := ?_) rfl (by kernel_rfl) (by kernel_rfl) (by kernel_rfl) (fun _ _ _ h => h) (by kernel_rfl) (by assumption) ?_ ?_; rotate_left; (focus (intro w hSw; (try dsimp only at hSw); go_simp; (first | done | (with_reducible rfl)))); (try simp only [Act.put, List.setIfInBounds_toArray, List.set_cons_zero, List.set_cons_succ])
      refine tk_yes 16 (v := ?_) rfl (by kernel_rfl) (by kernel_rfl) (by kernel_rfl) (fun _ _ _ h => h) (by kernel_rfl) (by assumption) ?_ ?_; rotate_left; (focus (intro w hSw; (try dsimp only at hSw); go_simp; (first | done | (with_reducible rfl)))); (try simp only [Act.put, List.setIfInBounds_toArray, List.set_cons_zero, List.set_cons_succ])
      refine tk_call 17 rfl (by kernel_rfl) (by kernel_rfl) (fun KW hKW => ?_); go_simp; go_at_call 21; refine (law08_works _).mono ?_; rintro e y3 ⟨rfl, h3'⟩; dsimp only; refine hKW.out _ _ ?_ (fun hHeld => ?_); (focus ((try dsimp only); exact KS.out _ (by first | exact bel_drew hbig5 | exact bel_trans hHeld.1 (by assumption)))); clear hKW KW; (try simp only [Act.put, List.setIfInBounds_toArray, List.set_cons_zero, List.set_cons_succ])
      refine tk_yes 18 (v := ?_) rfl (by kernel_rfl) (by kernel_rfl) (by kernel_rfl) (fun _ _ _ h => h) (by kernel_rfl) (by assumption) ?_ ?_; rotate_left; (focus (intro w hSw; (try dsimp only at hSw); go_simp; (first | done | (with_reducible rfl)))); (try simp only [Act.put, List.setIfInBounds_toArray, List.set_cons_zero, List.set_cons_succ])
      refine tk_yes 19 (v := ?_) rfl (by kernel_rfl) (by kernel_rfl) (by kernel_rfl) (fun _ _ _ h => h) (by kernel_rfl) (by assumption) ?_ ?_; rotate_left; (focus (intro w hSw; (try dsimp only at hSw); go_simp; (first | done | (with_reducible rfl)))); (try simp only [Act.put, List.setIfInBounds_toArray, List.set_cons_zero, List.set_cons_succ])
      refine wpAnyH_done (by kernel_rfl) ?_ _
      have hfin := bel_trans' hB0.out hHeld.1 HSZ.out
      go_wp2_with fail
      go_ret
      exact ⟨rfl, hfin⟩
end Go.Proofs.Ytfgfnfjeopjbgaa
