/-
  A forest: New; a forest that New did not give.
-/
import Derived.Test.YtdhcmnbajkpjiaaNodeG
namespace Go.Proofs.Ytdhcmnbajkpjiaa
open Go.RowKit
open Go.Maps
set_option linter.unusedVariables false
set_option linter.unusedSimpArgs false
attribute [local go_sem] drewN_alloc drewN_setCell
variable {B : Nat} {w : World} {Fb Sb Gb Mb Pb C Nb Lb n : Nat} {v : Value} {g up : List Int} {O cl : List Nat} {fr : Nat} {R : Nat → List Nat}

/-- A forest without nodes, of new memory. -/
def MadeForest (n : Nat) (w : World) (e : Ending) (w' : World) : Prop :=
  ∃ Fb Sb Gb Mb Pb C Nb Lb, e = .returned (.pointer (some ⟨Fb, 0, none⟩)) ∧ NodeAt w'.heap.size w' Fb Sb Gb Mb Pb C Nb Lb n (.slice none 0 0) (List.replicate n 0) (List.replicate n 0) [] [] 0 PC.none0 ∧ Below w.heap.size w w' ∧
    (w.heap.size ≤ Fb ∧ w.heap.size ≤ Sb ∧ w.heap.size ≤ Gb ∧ w.heap.size ≤ Mb ∧ w.heap.size ≤ Pb ∧ w.heap.size ≤ C ∧ w.heap.size ≤ Nb ∧ w.heap.size ≤ Lb)
theorem FI.none (n : Nat) (hn : n ≤ 4096) : FI n (List.replicate n 0) [] [] 0 PC.none0 :=
  ⟨⟨List.nodup_nil, List.nodup_nil, fun _ h => by simp at h, fun _ h => by simp at h, Nat.zero_le _, by omega⟩, fun x i _ hx => by simp [PC.none0] at hx, fun x hx => by simp at hx, fun x i _ hx => by simp [PC.none0] at hx, hn⟩
theorem node_New_no (x : Int) (w : World) (hx : x < 0 ∨ 4096 < x) : Calls Try.prog 36 #[.int .i64 x] w fun e w' => e = .returned (.pointer none) ∧ w = w' := by
  by_cases h0 : x < 0
  · have q : decide (x < 0) = true := decide_eq_true h0
    go_enter Try.func36, Try.ntmps36
    go_wp2_with fail
    go_ret
    exact ⟨rfl, rfl⟩
  · have q : decide (x < 0) = false := decide_eq_false h0
    have q2 : decide (4096 < x) = true := decide_eq_true (hx.resolve_left h0)
    have q3 := hx.resolve_left h0
    clear hx
    go_enter Try.func36, Try.ntmps36
    go_wp2_with fail
    go_ret
    exact ⟨rfl, rfl⟩
theorem forest_made {w W : World} {Sb Gb Mb Pb C Nb Lb n : Nat} (hs : ∀ B', (Sb < B' ∧ Gb < B' ∧ Mb < B') → SlotsAt B' W Sb Gb Mb n (.slice none 0 0) (List.replicate n 0) [] [] 0) (hc : ChainRows W C Nb Lb n (n + 1) PC.none0) (hp : RowAt W Pb 3 ((List.replicate n (0 : Int)).map (Value.int .i64)))
    (hn : [Sb, Gb, Mb, Pb, C, Nb, Lb].Nodup) (hb : Below w.heap.size w W) (hge : w.heap.size ≤ Sb ∧ w.heap.size ≤ Gb ∧ w.heap.size ≤ Mb ∧ w.heap.size ≤ Pb ∧ w.heap.size ≤ C ∧ w.heap.size ≤ Nb ∧ w.heap.size ≤ Lb) (hlt : Sb < W.heap.size ∧ Gb < W.heap.size ∧ Mb < W.heap.size) :
    MadeForest n w (.returned (.pointer (some ⟨W.heap.size, 0, none⟩))) (W.alloc (.cells #[.pointer (some ⟨Sb, 0, none⟩), .pointer (some ⟨C, 0, none⟩), .slice (some ⟨Pb, 0, none⟩) n n] 77)) := by
  obtain ⟨c1, c2, c3⟩ := hc.lt1
  have pl := hp.lt
  have hsz : (W.alloc (.cells #[.pointer (some ⟨Sb, 0, none⟩), .pointer (some ⟨C, 0, none⟩), .slice (some ⟨Pb, 0, none⟩) n n] 77)).heap.size = W.heap.size + 1 := by simp
  have hbA : Below W.heap.size W (W.alloc (.cells #[.pointer (some ⟨Sb, 0, none⟩), .pointer (some ⟨C, 0, none⟩), .slice (some ⟨Pb, 0, none⟩) n n] 77)) := bel_alloc (Below.refl _ _) _
  refine ⟨W.heap.size, Sb, Gb, Mb, Pb, C, Nb, Lb, rfl, ⟨RowAt.new W 77 _, hp.keep hbA, by simp, (hs _ (by omega)).below hbA, hc.keep hbA, ?_, by omega, Nat.le_refl _⟩, bel_trans' hb hbA hb.size, ?_⟩
  · refine List.nodup_cons.2 ⟨fun hm => ?_, hn⟩
    simp only [List.mem_cons, List.not_mem_nil, or_false] at hm
    omega
  · have := hb.size; omega
theorem nodup7 {a b c d e f g : Nat} (h1 : a ≠ b ∧ a ≠ c ∧ a ≠ d ∧ a ≠ e ∧ a ≠ f ∧ a ≠ g) (h2 : b ≠ c ∧ b ≠ d ∧ b ≠ e ∧ b ≠ f ∧ b ≠ g) (h3 : c ≠ d ∧ c ≠ e ∧ c ≠ f ∧ c ≠ g) (h4 : d ≠ e ∧ d ≠ f ∧ d ≠ g) (h5 : e ≠ f ∧ e ≠ g) (h6 : f ≠ g) : [a, b, c, d, e, f, g].Nodup := by
  simp only [List.nodup_cons, List.mem_cons, List.not_mem_nil, or_false, not_or, not_false_eq_true, List.nodup_nil, and_true]
  exact ⟨h1, h2, h3, h4, h5, h6⟩
def ALLOCF (Sb C Pb n : Nat) : Obj := .cells #[.pointer (some ⟨Sb, 0, none⟩), .pointer (some ⟨C, 0, none⟩), .slice (some ⟨Pb, 0, none⟩) n n] 77
theorem undrew {w u : World} (h : Below w.drew.heap.size w.drew u) : Below w.heap.size w u := ⟨h.os, h.tape, h.output, h.size, h.block⟩
theorem made1 {n : Nat} {w u1 u5 : World} {Z : Array Value} {C Nb Lb : Nat} (HZ : RowAt (u5.alloc (.cells Z 3)) u5.heap.size 3 ((List.replicate n (0 : Int)).map (Value.int .i64))) (z1 : u1.heap.size = w.heap.size + 3)
    (h1 : ∀ B', w.heap.size + 3 ≤ B' → SlotsAt B' u1 (w.heap.size + 2) w.heap.size (w.heap.size + 1) n (.slice none 0 0) (List.replicate n 0) [] [] 0) (b1 : Below w.heap.size w u1) (h5 : ChainRows u5 C Nb Lb n (n + 1) PC.none0) (b5 : Below u1.heap.size u1 u5)
    (x1 : u1.heap.size ≤ C) (x2 : u1.heap.size ≤ Nb) (x3 : u1.heap.size ≤ Lb) : MadeForest n w (.returned (.pointer (some ⟨u5.heap.size + 1, 0, none⟩))) ((u5.alloc (.cells Z 3)).alloc (ALLOCF (w.heap.size + 2) C u5.heap.size n)) := by
  obtain ⟨y1, y2, y3⟩ := h5.lt1
  obtain ⟨a1, a2, a3⟩ : C ≠ Nb ∧ C ≠ Lb ∧ Nb ≠ Lb := by obtain ⟨St, hSt, _⟩ := id h5; exact ⟨hSt.aCN, hSt.aCL, hSt.aNL⟩
  have zz := b5.size
  have hA : Below u5.heap.size u5 (u5.alloc (.cells Z 3)) := bel_alloc (Below.refl _ _) _
  have e : (u5.alloc (.cells Z 3)).heap.size = u5.heap.size + 1 := by simp
  have K := forest_made (w := w) (W := u5.alloc (.cells Z 3)) (Pb := u5.heap.size) (fun B' hB' => ((h1 B' (by omega)).below b5).below hA) (h5.keep hA) HZ
    (nodup7 (by omega) (by omega) (by omega) (by omega) (by omega) (by omega)) (bel_trans' (bel_trans b1 b5) hA (by omega)) (by omega) (by omega)
  rw [e] at K
  exact K
theorem made2 {n : Nat} {w u1 u5 : World} {Z : Array Value} {C Nb Lb : Nat} (HZ : RowAt (u1.alloc (.cells Z 3)) u1.heap.size 3 ((List.replicate n (0 : Int)).map (Value.int .i64))) (z1 : u1.heap.size = w.heap.size + 3)
    (h1 : ∀ B', w.heap.size + 3 ≤ B' → SlotsAt B' u1 (w.heap.size + 2) w.heap.size (w.heap.size + 1) n (.slice none 0 0) (List.replicate n 0) [] [] 0) (b1 : Below w.heap.size w u1) (h5 : ChainRows u5 C Nb Lb n (n + 1) PC.none0) (b5 : Below (u1.alloc (.cells Z 3)).heap.size (u1.alloc (.cells Z 3)) u5)
    (x1 : (u1.alloc (.cells Z 3)).heap.size ≤ C) (x2 : (u1.alloc (.cells Z 3)).heap.size ≤ Nb) (x3 : (u1.alloc (.cells Z 3)).heap.size ≤ Lb) : MadeForest n w (.returned (.pointer (some ⟨u5.heap.size, 0, none⟩))) (u5.alloc (ALLOCF (w.heap.size + 2) C (w.heap.size + 3) n)) := by
  obtain ⟨y1, y2, y3⟩ := h5.lt1
  obtain ⟨a1, a2, a3⟩ : C ≠ Nb ∧ C ≠ Lb ∧ Nb ≠ Lb := by obtain ⟨St, hSt, _⟩ := id h5; exact ⟨hSt.aCN, hSt.aCL, hSt.aNL⟩
  have zz := b5.size
  have hA : Below u1.heap.size u1 (u1.alloc (.cells Z 3)) := bel_alloc (Below.refl _ _) _
  have e : (u1.alloc (.cells Z 3)).heap.size = u1.heap.size + 1 := by simp
  rw [e] at zz x1 x2 x3
  have hp := HZ.keep b5
  rw [z1] at hp
  exact forest_made (w := w) (W := u5) (Pb := w.heap.size + 3) (fun B' hB' => ((h1 B' (by omega)).below hA).below b5) h5 hp
    (nodup7 (by omega) (by omega) (by omega) (by omega) (by omega) (by omega)) (bel_trans (bel_trans b1 hA) b5) (by omega) (by omega)
theorem made3 {n : Nat} {w u1 u5 : World} {Z : Array Value} {C Nb Lb : Nat} (HZ : RowAt (w.alloc (.cells Z 3)) w.heap.size 3 ((List.replicate n (0 : Int)).map (Value.int .i64))) (z1 : u1.heap.size = (w.alloc (.cells Z 3)).heap.size + 3)
    (h1 : ∀ B', (w.alloc (.cells Z 3)).heap.size + 3 ≤ B' → SlotsAt B' u1 ((w.alloc (.cells Z 3)).heap.size + 2) (w.alloc (.cells Z 3)).heap.size ((w.alloc (.cells Z 3)).heap.size + 1) n (.slice none 0 0) (List.replicate n 0) [] [] 0) (b1 : Below (w.alloc (.cells Z 3)).heap.size (w.alloc (.cells Z 3)) u1) (h5 : ChainRows u5 C Nb Lb n (n + 1) PC.none0) (b5 : Below u1.heap.size u1 u5)
    (x1 : u1.heap.size ≤ C) (x2 : u1.heap.size ≤ Nb) (x3 : u1.heap.size ≤ Lb) : MadeForest n w (.returned (.pointer (some ⟨u5.heap.size, 0, none⟩))) (u5.alloc (ALLOCF (w.heap.size + 1 + 2) C w.heap.size n)) := by
  obtain ⟨y1, y2, y3⟩ := h5.lt1
  obtain ⟨a1, a2, a3⟩ : C ≠ Nb ∧ C ≠ Lb ∧ Nb ≠ Lb := by obtain ⟨St, hSt, _⟩ := id h5; exact ⟨hSt.aCN, hSt.aCL, hSt.aNL⟩
  have zz := b5.size
  have hA : Below w.heap.size w (w.alloc (.cells Z 3)) := bel_alloc (Below.refl _ _) _
  have e : (w.alloc (.cells Z 3)).heap.size = w.heap.size + 1 := by simp
  have hp := (HZ.keep b1).keep b5
  rw [e] at z1 h1
  exact forest_made (w := w) (W := u5) (Pb := w.heap.size) (fun B' hB' => (h1 B' (by omega)).below b5) h5 hp
    (nodup7 (by omega) (by omega) (by omega) (by omega) (by omega) (by omega)) (bel_trans (bel_trans hA b1) b5) (by omega) (by omega)
set_option maxRecDepth 100000 in
set_option maxHeartbeats 8000000 in
theorem node_New (n : Nat) (w : World) (hn : n ≤ 4096) : Calls Try.prog 36 #[.int .i64 (n : Int)] w (MadeForest n w) := by
  have hinfo : (Try.prog.info? 3).map (fun i => (i.zero, i.size, i.bytes)) = some (some (.int .i64 0), 1, 8) := by kernel_rfl
  have hmk := run_make_row' (P := Try.prog) 27 3 (.int .i64 0) 8 Try.underlying27 hinfo rfl .i64 .i64 n (by omega) (by omega)
  rw [made_ints] at hmk
  obtain ⟨Z, hZ⟩ : ∃ Z, ((List.replicate n (0 : Int)).map (Value.int .i64)).toArray = Z := ⟨_, rfl⟩
  rw [hZ] at hmk
  have HZ : Hid (∀ W : World, RowAt (W.alloc (.cells Z 3)) W.heap.size 3 ((List.replicate n (0 : Int)).map (Value.int .i64))) := Lib.hid (fun W => by rw [← hZ]; exact RowAt.new W _ _)
  have KS := Lib.hid (fun W => slots_New n W (by omega))
  have KC : Hid (∀ W, Calls Try.prog 18 #[.int .i64 ((n : Int) + 1), .int .i64 (n : Int)] W (MadeChain W n (n + 1))) := Lib.hid (fun W => by
    have K := chain_New_yes (n + 1) n W (by omega) (by omega)
    have e : ((n + 1 : Nat) : Int) = (n : Int) + 1 := by omega
    rwa [e] at K)
  have q1 : decide ((n : Int) < 0) = false := decide_eq_false (by omega)
  have q1' : ¬ (n : Int) < 0 := by omega
  have q2 : decide ((4096 : Int) < (n : Int)) = false := decide_eq_false (by omega)
  have q2' : ¬ (4096 : Int) < (n : Int) := by omega
  have wn : IntKind.i64.wrap ((n : Int) + 1) = (n : Int) + 1 := by rw [IntKind.wrap_i64]; omega
  clear hinfo hZ
  go_enter Try.func36, Try.ntmps36
  go_wp2_with fail
  refine wp_region_held_drew (S := (fun W : World => W.heap.size = W.heap.size)) (by kernel_rfl) ?_ (fun hHeld => ?_)
  focus ((try dsimp only); all_goals trivial)
  refine tk_yes 0 (v := ?_) rfl (by kernel_rfl) (by kernel_rfl) (by kernel_rfl) (fun _ _ _ h => h) (by kernel_rfl) (by first | assumption | trivial) ?_ ?_; rotate_left; (focus (intro w hSw; (try dsimp only at hSw); go_simp; (first | done | (with_reducible rfl)))); (try simp only [Act.put, List.setIfInBounds_toArray, List.set_cons_zero, List.set_cons_succ])
  refine tk_yes 2 (v := ?_) rfl (by kernel_rfl) (by kernel_rfl) (by kernel_rfl) (fun _ _ _ h => h) (by kernel_rfl) (by first | assumption | trivial) ?_ ?_; rotate_left; (focus (intro w hSw; (try dsimp only at hSw); go_simp; (first | done | (with_reducible rfl)))); (try simp only [Act.put, List.setIfInBounds_toArray, List.set_cons_zero, List.set_cons_succ])
  refine tk_yes 3 (v := ?_) rfl (by kernel_rfl) (by kernel_rfl) (by kernel_rfl) (fun _ _ _ h => h) (by kernel_rfl) (by first | assumption | trivial) ?_ ?_; rotate_left; (focus (intro w hSw; (try dsimp only at hSw); go_simp; (first | done | (with_reducible rfl)))); (try simp only [Act.put, List.setIfInBounds_toArray, List.set_cons_zero, List.set_cons_succ])
  refine tk_yes 4 (v := ?_) rfl (by kernel_rfl) (by kernel_rfl) (by kernel_rfl) (fun _ _ _ h => h) (by kernel_rfl) (by first | assumption | trivial) ?_ ?_; rotate_left; (focus (intro w hSw; (try dsimp only at hSw); go_simp; (first | done | (with_reducible rfl)))); (try simp only [Act.put, List.setIfInBounds_toArray, List.set_cons_zero, List.set_cons_succ])
  refine tk_yes 6 (v := ?_) rfl (by kernel_rfl) (by kernel_rfl) (by kernel_rfl) (fun _ _ _ h => h) (by kernel_rfl) (by first | assumption | trivial) ?_ ?_; rotate_left; (focus (intro w hSw; (try dsimp only at hSw); go_simp; (first | done | (with_reducible rfl)))); (try simp only [Act.put, List.setIfInBounds_toArray, List.set_cons_zero, List.set_cons_succ])
  refine tk_two 1 7 rfl rfl (by kernel_rfl) (by kernel_rfl) (by kernel_rfl) (fun KW hKW => ?_) (fun KW hKW => ?_)
  · go_simp; go_at_call 108; refine (KS.out _).mono ?_; rintro e u1 ⟨rfl, z1, h1, b1⟩; refine hKW.out _ _ ?_ (fun hHeld => ?_); (focus ((try dsimp only); all_goals trivial)); clear hKW KW; (try simp only [Act.put, List.setIfInBounds_toArray, List.set_cons_zero, List.set_cons_succ])
    refine tk_two 5 7 rfl rfl (by kernel_rfl) (by kernel_rfl) (by kernel_rfl) (fun KW hKW => ?_) (fun KW hKW => ?_)
    · go_simp; go_at_call 18; refine (KC.out _).mono ?_; rintro e u5 ⟨C, Nb, Lb, rfl, h5, b5, x1, x2, x3⟩; refine hKW.out _ _ ?_ (fun hHeld => ?_); (focus ((try dsimp only); all_goals trivial)); clear hKW KW; (try simp only [Act.put, List.setIfInBounds_toArray, List.set_cons_zero, List.set_cons_succ])
      refine tk_call 7 rfl (by kernel_rfl) (by kernel_rfl) (fun KW hKW => ?_); go_simp; refine hKW.out _ _ ?_ (fun hHeld => ?_); (focus ((try dsimp only); all_goals trivial)); clear hKW KW; (try simp only [Act.put, List.setIfInBounds_toArray, List.set_cons_zero, List.set_cons_succ])
      refine tk_yes 8 (v := ?_) rfl (by kernel_rfl) (by kernel_rfl) (by kernel_rfl) (fun _ _ _ h => h) (by kernel_rfl) (by first | assumption | trivial) ?_ ?_; rotate_left; (focus (intro w hSw; (try dsimp only at hSw); go_simp; (first | done | (with_reducible rfl)))); (try simp only [Act.put, List.setIfInBounds_toArray, List.set_cons_zero, List.set_cons_succ])
      refine tk_call 9 rfl (by kernel_rfl) (by kernel_rfl) (fun KW hKW => ?_); go_simp; refine hKW.out _ _ ?_ (fun hHeld => ?_); (focus ((try dsimp only); all_goals trivial)); clear hKW KW; (try simp only [Act.put, List.setIfInBounds_toArray, List.set_cons_zero, List.set_cons_succ])
      refine tk_yes 10 (v := ?_) rfl (by kernel_rfl) (by kernel_rfl) (by kernel_rfl) (fun _ _ _ h => h) (by kernel_rfl) (by first | assumption | trivial) ?_ ?_; rotate_left; (focus (intro w hSw; (try dsimp only at hSw); go_simp; (first | done | (with_reducible rfl)))); (try simp only [Act.put, List.setIfInBounds_toArray, List.set_cons_zero, List.set_cons_succ])
      refine wpAnyH_done (by kernel_rfl) ?_ _
      go_wp2_with fail
      exact bodyPost_ret (v := .pointer (some ⟨u5.heap.size + 1, 0, none⟩)) (by simp [results, Try.results36, go_sem]) rfl (made1 (HZ.out u5) z1 h1 (undrew b1) h5 b5 x1 x2 x3)
    · go_simp; refine hKW.out _ _ ?_ (fun hHeld => ?_); (focus ((try dsimp only); all_goals trivial)); clear hKW KW; (try simp only [Act.put, List.setIfInBounds_toArray, List.set_cons_zero, List.set_cons_succ])
      refine tk_call 5 rfl (by kernel_rfl) (by kernel_rfl) (fun KW hKW => ?_); go_simp; go_at_call 18; refine (KC.out _).mono ?_; rintro e u5 ⟨C, Nb, Lb, rfl, h5, b5, x1, x2, x3⟩; refine hKW.out _ _ ?_ (fun hHeld => ?_); (focus ((try dsimp only); all_goals trivial)); clear hKW KW; (try simp only [Act.put, List.setIfInBounds_toArray, List.set_cons_zero, List.set_cons_succ])
      refine tk_yes 8 (v := ?_) rfl (by kernel_rfl) (by kernel_rfl) (by kernel_rfl) (fun _ _ _ h => h) (by kernel_rfl) (by first | assumption | trivial) ?_ ?_; rotate_left; (focus (intro w hSw; (try dsimp only at hSw); go_simp; (first | done | (with_reducible rfl)))); (try simp only [Act.put, List.setIfInBounds_toArray, List.set_cons_zero, List.set_cons_succ])
      refine tk_call 9 rfl (by kernel_rfl) (by kernel_rfl) (fun KW hKW => ?_); go_simp; refine hKW.out _ _ ?_ (fun hHeld => ?_); (focus ((try dsimp only); all_goals trivial)); clear hKW KW; (try simp only [Act.put, List.setIfInBounds_toArray, List.set_cons_zero, List.set_cons_succ])
      refine tk_yes 10 (v := ?_) rfl (by kernel_rfl) (by kernel_rfl) (by kernel_rfl) (fun _ _ _ h => h) (by kernel_rfl) (by first | assumption | trivial) ?_ ?_; rotate_left; (focus (intro w hSw; (try dsimp only at hSw); go_simp; (first | done | (with_reducible rfl)))); (try simp only [Act.put, List.setIfInBounds_toArray, List.set_cons_zero, List.set_cons_succ])
      refine wpAnyH_done (by kernel_rfl) ?_ _
      go_wp2_with fail
      exact bodyPost_ret (v := .pointer (some ⟨u5.heap.size, 0, none⟩)) (by simp [results, Try.results36, go_sem]) rfl (made2 (HZ.out u1) z1 h1 (undrew b1) h5 b5 x1 x2 x3)
  · go_simp; refine hKW.out _ _ ?_ (fun hHeld => ?_); (focus ((try dsimp only); all_goals trivial)); clear hKW KW; (try simp only [Act.put, List.setIfInBounds_toArray, List.set_cons_zero, List.set_cons_succ])
    refine tk_call 1 rfl (by kernel_rfl) (by kernel_rfl) (fun KW hKW => ?_); go_simp; go_at_call 108; refine (KS.out _).mono ?_; rintro e u1 ⟨rfl, z1, h1, b1⟩; refine hKW.out _ _ ?_ (fun hHeld => ?_); (focus ((try dsimp only); all_goals trivial)); clear hKW KW; (try simp only [Act.put, List.setIfInBounds_toArray, List.set_cons_zero, List.set_cons_succ])
    refine tk_call 5 rfl (by kernel_rfl) (by kernel_rfl) (fun KW hKW => ?_); go_simp; go_at_call 18; refine (KC.out _).mono ?_; rintro e u5 ⟨C, Nb, Lb, rfl, h5, b5, x1, x2, x3⟩; refine hKW.out _ _ ?_ (fun hHeld => ?_); (focus ((try dsimp only); all_goals trivial)); clear hKW KW; (try simp only [Act.put, List.setIfInBounds_toArray, List.set_cons_zero, List.set_cons_succ])
    refine tk_yes 8 (v := ?_) rfl (by kernel_rfl) (by kernel_rfl) (by kernel_rfl) (fun _ _ _ h => h) (by kernel_rfl) (by first | assumption | trivial) ?_ ?_; rotate_left; (focus (intro w hSw; (try dsimp only at hSw); go_simp; (first | done | (with_reducible rfl)))); (try simp only [Act.put, List.setIfInBounds_toArray, List.set_cons_zero, List.set_cons_succ])
    refine tk_call 9 rfl (by kernel_rfl) (by kernel_rfl) (fun KW hKW => ?_); go_simp; refine hKW.out _ _ ?_ (fun hHeld => ?_); (focus ((try dsimp only); all_goals trivial)); clear hKW KW; (try simp only [Act.put, List.setIfInBounds_toArray, List.set_cons_zero, List.set_cons_succ])
    refine tk_yes 10 (v := ?_) rfl (by kernel_rfl) (by kernel_rfl) (by kernel_rfl) (fun _ _ _ h => h) (by kernel_rfl) (by first | assumption | trivial) ?_ ?_; rotate_left; (focus (intro w hSw; (try dsimp only at hSw); go_simp; (first | done | (with_reducible rfl)))); (try simp only [Act.put, List.setIfInBounds_toArray, List.set_cons_zero, List.set_cons_succ])
    refine wpAnyH_done (by kernel_rfl) ?_ _
    go_wp2_with fail
    exact bodyPost_ret (v := .pointer (some ⟨u5.heap.size, 0, none⟩)) (by simp [results, Try.results36, go_sem]) rfl (made3 (HZ.out w) z1 h1 (undrew b1) h5 b5 x1 x2 x3)

end Go.Proofs.Ytdhcmnbajkpjiaa
