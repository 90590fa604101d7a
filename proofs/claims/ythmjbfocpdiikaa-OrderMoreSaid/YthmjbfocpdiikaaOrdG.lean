/-
  Layer 28 (order): the walk of OrderMore.
-/
import Derived.Test.YthmjbfocpdiikaaOrdF
namespace Go.Proofs.Ythmjbfocpdiikaa
open Go.RowKit
set_option linter.unusedVariables false
set_option linter.unusedSimpArgs false
attribute [local go_sem] drewN_alloc drewN_setCell

theorem MemAt.set1 {w : World} {g n i : Nat} {l : List PO.Mem} (h : MemAt w (some ⟨g, 0, none⟩) n l) (hi : i < n) (x : Int) (hb : Bd x) :
    MemAt (w.setCell ⟨g, i * 4 + 2, none⟩ (.int .i64 x)) (some ⟨g, 0, none⟩) n (l.set i ((l.getD i PO.m0).1, (l.getD i PO.m0).2.1, x, (l.getD i PO.m0).2.2.2)) := by
  have hl := h.1
  obtain ⟨g', o', e, hg, hc⟩ := h.2.2.2 (by omega)
  obtain ⟨rfl, rfl⟩ : g = g' ∧ 0 = o' := by simpa using e
  refine ⟨by simp [hl], h.2.1, fun m hm => ?_, fun h0 => ⟨g, 0, rfl, by simpa using hg, fun j hj => ?_⟩⟩
  · rcases List.mem_or_eq_of_mem_set hm with h1 | rfl
    · exact h.2.2.1 m h1
    · exact ⟨(h.bd hi).1, (h.bd hi).2.1, hb, (h.bd hi).2.2.2⟩
  · obtain ⟨x0, x1, x2, x3⟩ := hc j hj
    simp only [Nat.zero_add] at x0 x1 x2 x3 ⊢
    by_cases e : j = i
    · subst e
      rw [set_getD_same _ _ (by omega)]
      refine ⟨?_, ?_, ?_, ?_⟩
      · rw [World.cell?_setCell_other _ _ _ _ (by simp)]; exact x0
      · rw [World.cell?_setCell_other _ _ _ _ (by simp)]; exact x1
      · exact World.cell?_setCell_same _ _ _ x2
      · rw [World.cell?_setCell_other _ _ _ _ (by simp)]; exact x3
    · rw [set_getD_ne _ _ (fun h => e h.symm)]
      refine ⟨?_, ?_, ?_, ?_⟩
      · rw [World.cell?_setCell_other _ _ _ _ (by first | (simp; done) | (simp; omega))]; exact x0
      · rw [World.cell?_setCell_other _ _ _ _ (by first | (simp; done) | (simp; omega))]; exact x1
      · rw [World.cell?_setCell_other _ _ _ _ (by first | (simp; done) | (simp; omega))]; exact x2
      · rw [World.cell?_setCell_other _ _ _ _ (by first | (simp; done) | (simp; omega))]; exact x3

set_option maxRecDepth 100000 in
set_option maxHeartbeats 8000000 in
theorem law28_OrderMore {A : Option Addr} {n : Nat} {l : List PO.Mem} (c : Nat) (f a b : Int) (w : World) (h : MemAt w A n l) (bf : -9223372036854775808 ≤ f ∧ f ≤ 9223372036854775807) (ba : 0 ≤ a ∧ a ≤ 255) (bb : 0 ≤ b ∧ b ≤ 255) :
    Calls Try.prog 12 #[.int .i64 f, .slice A n c, .agg #[.int .u8 a, .int .u8 b]] w fun e w' => e = .returned (.bool true) ∧ Below w.heap.size w w' := by
  obtain ⟨p, hp⟩ : ∃ p, w.heap.size = p := ⟨_, rfl⟩
  obtain ⟨V, hV⟩ : ∃ V, w.alloc (.cells #[.int .u8 a, .int .u8 b] 61) = V := ⟨_, rfl⟩
  have hB : Below w.heap.size w V := by rw [← hV]; exact (by repeat (first | exact Below.refl _ _ | assumption | refine bel_drew ?_ | refine bel_drewN ?_ _ | refine bel_alloc ?_ _ | refine bel_set ?_ (by first | (dsimp only; omega) | (simp; done) | (simp; omega)) _ | refine bel_trans ?_ (by assumption)))
  have c0 : V.cell? ⟨p, 0, none⟩ = some (.int .u8 a) := by rw [← hV, ← hp]; simp [go_sem]
  have c1 : V.cell? ⟨p, 1, none⟩ = some (.int .u8 b) := by rw [← hV, ← hp]; simp [go_sem]
  have hM := h.keep hB
  have hl := h.1
  have HV := Lib.hid hV
  have HP := Lib.hid hp
  have HB := Lib.hid hB
  by_cases hn : 20 < n
  · have g1 : decide ((20 : Int) < (n : Int)) = true := decide_eq_true (by omega)
    have g1' : (20 : Int) < (n : Int) := by omega
    clear h hM hV hp hB bf
    go_enter Try.func12, Try.ntmps12
    go_wp2_with fail
    rw [HV.out, HP.out]
    go_quiet (fail)
    go_wp2_with fail
    refine (law28_works _).mono ?_
    rintro e w9 ⟨rfl, d9⟩
    go_wp2_with fail
    exact bodyPost_ret (v := .bool true) (by simp [results, Try.results12, go_sem]) rfl ⟨rfl, bel_trans' HB.out (by exact (by repeat (first | exact Below.refl _ _ | assumption | refine bel_drew ?_ | refine bel_drewN ?_ _ | refine bel_trans ?_ (by assumption)))) HB.out.size⟩
  · have g1 : decide ((20 : Int) < (n : Int)) = false := decide_eq_false (by omega)
    have g1' : ¬ (20 : Int) < (n : Int) := by omega
    have KS : Hid (∀ y W, Below V.heap.size V W → Calls Try.prog 42 #[.int .i64 y, .slice A n c] W fun e w' => e = .returned (.bool (PO.safe y l)) ∧ Below W.heap.size W w') := Lib.hid (fun y W hW => order_Safe c y (hM.keep hW) (by omega))
    cases hs : PO.safe f l
    · have K1 := KS.out f
      rw [hs] at K1
      replace K1 := Lib.hid K1
      clear h hM hV hp hB bf KS
      go_enter Try.func12, Try.ntmps12
      go_wp2_with fail
      rw [HV.out, HP.out]
      go_quiet (fail)
      go_wp2_with fail
      refine (K1.out _ (by exact (by repeat (first | exact Below.refl _ _ | assumption | refine bel_drew ?_ | refine bel_drewN ?_ _ | refine bel_trans ?_ (by assumption))))).mono ?_
      rintro e w1 ⟨rfl, d1⟩
      go_wp2_with fail
      refine (law28_works _).mono ?_
      rintro e w9 ⟨rfl, d9⟩
      go_wp2_with fail
      exact bodyPost_ret (v := .bool true) (by simp [results, Try.results12, go_sem]) rfl ⟨rfl, bel_trans' HB.out (by exact (by repeat (first | exact Below.refl _ _ | assumption | refine bel_drew ?_ | refine bel_drewN ?_ _ | refine bel_trans ?_ (by assumption)))) HB.out.size⟩
    · have K1 := KS.out f
      rw [hs] at K1
      replace K1 := Lib.hid K1
      obtain ⟨f0, f1, fa⟩ := PO.may_iff.1 (PO.safe_may hs)
      by_cases hf : 524288 < f
      · have g2 : decide ((524288 : Int) < f) = true := decide_eq_true hf
        clear h hM hV hp hB bf KS
        go_enter Try.func12, Try.ntmps12
        go_wp2_with fail
        rw [HV.out, HP.out]
        go_quiet (fail)
        go_wp2_with fail
        refine (K1.out _ (by exact (by repeat (first | exact Below.refl _ _ | assumption | refine bel_drew ?_ | refine bel_drewN ?_ _ | refine bel_trans ?_ (by assumption))))).mono ?_
        rintro e w1 ⟨rfl, d1⟩
        go_wp2_with fail
        refine (law28_works _).mono ?_
        rintro e w9 ⟨rfl, d9⟩
        go_wp2_with fail
        exact bodyPost_ret (v := .bool true) (by simp [results, Try.results12, go_sem]) rfl ⟨rfl, bel_trans' HB.out (by exact (by repeat (first | exact Below.refl _ _ | assumption | refine bel_drew ?_ | refine bel_drewN ?_ _ | refine bel_trans ?_ (by assumption)))) HB.out.size⟩
      · have g2 : decide ((524288 : Int) < f) = false := decide_eq_false hf
        have g2' : ¬ (524288 : Int) < f := hf
        have K2 := KS.out (f + a)
        rw [PO.safe_more hs (by omega) (by omega)] at K2
        replace K2 := Lib.hid K2
        have K3 : Hid (∀ W, Below V.heap.size V W → Calls Try.prog 44 #[.int .i64 f, .slice A n c] W fun e w' => e = .returned (.int .i64 0) ∧ Below W.heap.size W w') := Lib.hid (fun W hW => by
          refine (order_Room c f (hM.keep hW) (by omega)).mono ?_
          rintro e w1 ⟨R, rfl, hR, d1⟩
          rw [hR.zero hs]
          exact ⟨rfl, d1⟩)
        have wa : IntKind.i64.wrap (f + a) = f + a := IntWalk.i64_in _ (by omega)
        by_cases hn0 : n = 0
        · subst hn0
          clear h hM hV hp hB bf KS
          go_enter Try.func12, Try.ntmps12
          go_wp2_with fail
          rw [HV.out, HP.out]
          go_quiet (fail)
          go_wp2_with fail
          refine (K1.out _ (by exact (by repeat (first | exact Below.refl _ _ | assumption | refine bel_drew ?_ | refine bel_drewN ?_ _ | refine bel_trans ?_ (by assumption))))).mono ?_
          rintro e w1 ⟨rfl, d1⟩
          have t1 : Below V.heap.size V w1 := by exact (by repeat (first | exact Below.refl _ _ | assumption | refine bel_drew ?_ | refine bel_drewN ?_ _ | refine bel_trans ?_ (by assumption)))
          go_wp2_with fail
          refine (K2.out _ t1).mono ?_
          rintro e w2 ⟨rfl, d2⟩
          have t2 : Below V.heap.size V w2 := by exact (by repeat (first | exact Below.refl _ _ | assumption | refine bel_drew ?_ | refine bel_drewN ?_ _ | refine bel_trans ?_ (by assumption)))
          go_wp2_with fail
          refine (K3.out _ t2).mono ?_
          rintro e w3 ⟨rfl, d3⟩
          have t3 : Below V.heap.size V w3 := by exact (by repeat (first | exact Below.refl _ _ | assumption | refine bel_drew ?_ | refine bel_drewN ?_ _ | refine bel_trans ?_ (by assumption)))
          go_wp2_with fail
          refine (law28_works _).mono ?_
          rintro e w9 ⟨rfl, d9⟩
          go_wp2_with fail
          exact bodyPost_ret (v := .bool true) (by simp [results, Try.results12, go_sem]) rfl ⟨rfl, bel_trans' HB.out (by exact (by repeat (first | exact Below.refl _ _ | assumption | refine bel_drew ?_ | refine bel_drewN ?_ _ | refine bel_trans ?_ (by assumption)))) HB.out.size⟩
        · obtain ⟨k, hk⟩ : ∃ k : Nat, b % (n : Int) = k := ⟨(b % (n : Int)).toNat, by have := Int.emod_nonneg b (show (n : Int) ≠ 0 by omega); omega⟩
          have hkn : (k : Int) < n := by rw [← hk]; exact Int.emod_lt_of_pos _ (by omega)
          have htm : b.tmod (n : Int) = (k : Int) := by rw [Int.tmod_eq_emod_of_nonneg bb.1]; exact hk
          have wk : IntKind.i64.wrap (k : Int) = (k : Int) := IntWalk.i64_in _ (by omega)
          have k0 : (0 : Int) ≤ (k : Int) := by omega
          have n0 : ¬ (n : Int) = 0 := by omega
          have n1 : ((n : Int) == 0) = false := by simp; omega
          have hback := PO.safe_back (k := k) hs (by omega)
          have hheld := PO.ok_held (PO.ok_get fa (show k < l.length by omega))
          have HSRC : Hid (∀ W, Below V.heap.size V W → SrcS 4 W A n (cellsM l)) := Lib.hid (fun W hW => srcM_of (hM.keep hW))
          have HBD := Lib.hid hM.2.2.1
          obtain ⟨hd, hhd⟩ : ∃ hd, (l.getD k PO.m0).2.2.1 = hd := ⟨_, rfl⟩
          have KM : Hid (∀ W (g c5 : Nat), MemAt W (some ⟨g, 0, none⟩) n l → f + hd ≤ 1048576 → Calls Try.prog 42 #[.int .i64 (f + hd), .slice (some ⟨g, 0, none⟩) n c5] (W.setCell ⟨g, k * 4 + 2, none⟩ (.int .i64 0)) fun e w' => e = .returned (.bool true) ∧ Below (W.setCell ⟨g, k * 4 + 2, none⟩ (.int .i64 0)).heap.size (W.setCell ⟨g, k * 4 + 2, none⟩ (.int .i64 0)) w') := Lib.hid (fun W g c5 hW hle => by
            have K := order_Safe c5 (f + hd) (hW.set1 (i := k) (by omega) 0 ⟨by omega, by omega⟩) (by omega)
            have e := hback (by rw [hhd]; exact hle)
            rw [hhd] at e
            rwa [e] at K)
          rw [hhd] at hheld
          have HHD := Lib.hid hhd
          have HARM : Hid (∀ (W : World) (g c5 : Nat), MemAt W (some ⟨g, 0, none⟩) n l → (∀ o, W.frozen? ⟨g, o, none⟩ = false) → Below V.heap.size V W → V.heap.size ≤ g →
              W.cell? ⟨g, k * 4 + 2, none⟩ = some (.int .i64 hd) ∧ W.frozen? ⟨g, k * 4 + 2, none⟩ = false ∧ (f + hd ≤ 1048576 → Calls Try.prog 42 #[.int .i64 (f + hd), .slice (some ⟨g, 0, none⟩) n c5] (W.setCell ⟨g, k * 4 + 2, none⟩ (.int .i64 0)) fun e w' => e = .returned (.bool true) ∧ Below (W.setCell ⟨g, k * 4 + 2, none⟩ (.int .i64 0)).heap.size (W.setCell ⟨g, k * 4 + 2, none⟩ (.int .i64 0)) w') ∧ Below V.heap.size V (W.setCell ⟨g, k * 4 + 2, none⟩ (.int .i64 0))) := Lib.hid (fun W g c5 hW hF hV' hg => by
            obtain ⟨gq, oq, eq, hgq, hcq⟩ := hW.2.2.2 (by omega)
            obtain ⟨rfl, rfl⟩ : g = gq ∧ 0 = oq := by simpa using eq
            have y2 := (hcq k (by omega)).2.2.1
            simp only [Nat.zero_add] at y2
            rw [hhd] at y2
            exact ⟨y2, hF _, KM.out W g c5 hW, hV'.setCell (by exact hg) _⟩)
          have wb : IntKind.i64.wrap (f + hd) = f + hd := IntWalk.i64_in _ (by omega)
          have kn : k < n := by omega
          clear h hM hV hp hB bf KS hback hhd fa hk
          go_enter Try.func12, Try.ntmps12
          go_wp2_with fail
          rw [HV.out, HP.out]
          go_quiet (fail)
          go_wp2_with fail
          refine (K1.out _ (by exact (by repeat (first | exact Below.refl _ _ | assumption | refine bel_drew ?_ | refine bel_drewN ?_ _ | refine bel_trans ?_ (by assumption))))).mono ?_
          rintro e w1 ⟨rfl, d1⟩
          have t1 : Below V.heap.size V w1 := by exact (by repeat (first | exact Below.refl _ _ | assumption | refine bel_drew ?_ | refine bel_drewN ?_ _ | refine bel_trans ?_ (by assumption)))
          go_wp2_with fail
          refine (K2.out _ t1).mono ?_
          rintro e w2 ⟨rfl, d2⟩
          have t2 : Below V.heap.size V w2 := by exact (by repeat (first | exact Below.refl _ _ | assumption | refine bel_drew ?_ | refine bel_drewN ?_ _ | refine bel_trans ?_ (by assumption)))
          go_wp2_with fail
          refine (K3.out _ t2).mono ?_
          rintro e w3 ⟨rfl, d3⟩
          have t3 : Below V.heap.size V w3 := by exact (by repeat (first | exact Below.refl _ _ | assumption | refine bel_drew ?_ | refine bel_drewN ?_ _ | refine bel_trans ?_ (by assumption)))
          have OE : Hid (OwnM w3.heap.size (w3.alloc (.cells #[] 34)) (.slice (some ⟨w3.heap.size, 0, none⟩) 0 0) []) := Lib.hid (own_emptyS 4 w3 _)
          have hs5 := t3.size
          by_cases hov : 1048576 < f + hd
          · have g7 : decide ((1048576 : Int) < f + hd) = true := decide_eq_true hov
            go_wp2_with (at_builtin; refine app_listM rfl (.tmp 52) (.tmp 53) rfl w3.heap.size _ [] rfl OE.out A n c l rfl (HSRC.out _ (by exact bel_alloc t3 _)) (by simp; omega) (by simp) ?_; intro v5 w5 ho5 hb5; rw [List.nil_append] at ho5; obtain ⟨g, c5, rfl, hg5, i5, f5⟩ := OwnM.block ho5 HBD.out (by rw [hl]; omega); rw [hl] at i5; have t5 : Below V.heap.size V w5 := bel_trans' (bel_alloc t3 _) hb5 t3.size; obtain ⟨y2, f52, K5, t6⟩ := HARM.out w5 g c5 i5 f5 t5 (by omega); replace K5 := Lib.hid K5; clear f5 i5 ho5 hb5; try rw [hl])
            refine (law28_works _).mono ?_
            rintro e w9 ⟨rfl, d9⟩
            go_wp2_with fail
            exact bodyPost_ret (v := .bool true) (by simp [results, Try.results12, go_sem]) rfl ⟨rfl, bel_trans' HB.out (by exact (by repeat (first | exact Below.refl _ _ | assumption | refine bel_drew ?_ | refine bel_drewN ?_ _ | refine bel_trans ?_ (by assumption)))) HB.out.size⟩
          · have g7 : decide ((1048576 : Int) < f + hd) = false := decide_eq_false hov
            have hov' : f + hd ≤ 1048576 := by omega
            go_wp2_with (at_builtin; refine app_listM rfl (.tmp 52) (.tmp 53) rfl w3.heap.size _ [] rfl OE.out A n c l rfl (HSRC.out _ (by exact bel_alloc t3 _)) (by simp; omega) (by simp) ?_; intro v5 w5 ho5 hb5; rw [List.nil_append] at ho5; obtain ⟨g, c5, rfl, hg5, i5, f5⟩ := OwnM.block ho5 HBD.out (by rw [hl]; omega); rw [hl] at i5; have t5 : Below V.heap.size V w5 := bel_trans' (bel_alloc t3 _) hb5 t3.size; obtain ⟨y2, f52, K5, t6⟩ := HARM.out w5 g c5 i5 f5 t5 (by omega); replace K5 := Lib.hid K5; clear f5 i5 ho5 hb5; try rw [hl])
            refine (K5.out hov').mono ?_
            rintro e w7 ⟨rfl, d7⟩
            have t7 : Below V.heap.size V w7 := by exact bel_trans t6 d7
            go_wp2_with fail
            refine (law28_works _).mono ?_
            rintro e w9 ⟨rfl, d9⟩
            go_wp2_with fail
            exact bodyPost_ret (v := .bool true) (by simp [results, Try.results12, go_sem]) rfl ⟨rfl, bel_trans' HB.out (by exact (by repeat (first | exact Below.refl _ _ | assumption | refine bel_drew ?_ | refine bel_drewN ?_ _ | refine bel_trans ?_ (by assumption)))) HB.out.size⟩
end Go.Proofs.Ythmjbfocpdiikaa
