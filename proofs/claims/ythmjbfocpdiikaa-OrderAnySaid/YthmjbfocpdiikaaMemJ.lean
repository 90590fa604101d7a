/-
  Layer 29 (bank): the walk of BankKeeps.
-/
import Derived.Test.YthmjbfocpdiikaaMemI
namespace Go.Proofs.Ythmjbfocpdiikaa
open Go.RowKit
set_option linter.unusedVariables false
set_option linter.unusedSimpArgs false
attribute [local go_sem] drewN_alloc drewN_setCell

theorem bmay_facts {f w a x : Int} {l : List PO.Mem} (h : PO.bmay f w l a x = true) :
    ∃ k : Nat, a = k ∧ k < l.length ∧ PO.bad f w = false ∧ 1 ≤ x ∧ x ≤ f ∧ PO.ok (l.getD k PO.m0) = true ∧ x ≤ (l.getD k PO.m0).2.2.2 ∧
      PO.after l a x = (l.set k ((l.getD k PO.m0).1, (l.getD k PO.m0).2.1, (l.getD k PO.m0).2.2.1 + x, (l.getD k PO.m0).2.2.2 - x), true) ∧
      PO.bsafe (f - x) w (l.set k ((l.getD k PO.m0).1, (l.getD k PO.m0).2.1, (l.getD k PO.m0).2.2.1 + x, (l.getD k PO.m0).2.2.2 - x)) = true := by
  unfold PO.bmay at h
  by_cases h1 : PO.bad f w = true ∨ f < x
  · rw [if_pos h1] at h; cases h
  · rw [if_neg h1, Bool.and_eq_true] at h
    obtain ⟨h2, h3⟩ := h
    have hx := after_pos h2
    have hb : PO.bad f w = false := by cases hq : PO.bad f w <;> simp_all
    have e : PO.after l a x = (if a < 0 ∨ (l.length : Int) ≤ a then ([], false) else if (PO.grant (l.getD a.toNat PO.m0) x).2 ≠ 0 then ([], false) else (l.set a.toNat ((l.getD a.toNat PO.m0).1, (PO.grant (l.getD a.toNat PO.m0) x).1), true)) := rfl
    by_cases h4 : a < 0 ∨ (l.length : Int) ≤ a
    · rw [e, if_pos h4] at h2; cases h2
    · rw [if_neg h4] at e
      by_cases h5 : (PO.grant (l.getD a.toNat PO.m0) x).2 ≠ 0
      · rw [e, if_pos h5] at h2; cases h2
      · rw [if_neg h5] at e
        obtain ⟨k, rfl⟩ : ∃ k : Nat, a = k := ⟨a.toNat, by omega⟩
        rw [Int.toNat_natCast] at e h5
        have hk : k < l.length := by omega
        have hg : PO.grant (l.getD k PO.m0) x = PA.doo 2 (l.getD k PO.m0).2.1 (l.getD k PO.m0).2.2.1 (l.getD k PO.m0).2.2.2 x := rfl
        rw [hg] at h5 e
        obtain ⟨m, hm⟩ : ∃ m, l.getD k PO.m0 = m := ⟨_, rfl⟩
        rw [hm] at h5 e
        cases hr : PA.right m.2.1 m.2.2.1 m.2.2.2
        · rw [PA.doo_arg (.inl hr)] at h5; simp at h5
        · by_cases h6 : m.2.2.2 < x
          · rw [PA.doo2_no hr hx h6] at h5; simp at h5
          · rw [PA.doo2_yes hr hx (by omega)] at e
            rw [e] at h3
            refine ⟨k, rfl, hk, hb, hx, by omega, ?_⟩
            rw [hm]
            exact ⟨hr, by omega, e, h3⟩

theorem law29_BankKeeps_long (A : Option Addr) (n c : Nat) (f wt a x : Int) (w : World) (hn : 16 < n) :
    Calls Try.prog 4 #[.agg #[.int .i64 f, .int .i64 wt], .slice A n c, .agg #[.int .i64 a, .int .i64 x]] w fun e w' => e = .returned (.bool true) ∧ Below w.heap.size w w' := by
  have K := Lib.hid law29_works
  have hn' : decide ((16 : Int) < (n : Int)) = true := by simp; omega
  go_enter Try.func4, Try.ntmps4
  go_wp2_with fail
  refine (K.out _).mono ?_
  rintro e w1 ⟨rfl, h1⟩
  go_wp2_with fail
  exact bodyPost_ret (v := .bool true) (by simp [results, Try.results4, go_sem]) rfl ⟨rfl, (by repeat (first | exact Below.refl _ _ | assumption | refine bel_drew ?_ | refine bel_drewN ?_ _ | refine bel_alloc ?_ _ | refine bel_set ?_ (by first | (dsimp only; omega) | (simp; done) | (simp; omega)) _ | refine bel_trans ?_ (by assumption)))⟩

set_option maxRecDepth 100000 in
set_option maxHeartbeats 8000000 in
theorem law29_BankKeeps_some {A : Option Addr} {n : Nat} {l : List PO.Mem} (c : Nat) (f wt a x : Int) (w : World) (h : MemAt w A n l) (hn : n ≤ 16) (b0 : -9223372036854775808 ≤ f ∧ f ≤ 9223372036854775807) (b1 : -9223372036854775808 ≤ wt ∧ wt ≤ 9223372036854775807) (b2 : -9223372036854775808 ≤ a ∧ a ≤ 9223372036854775807) (b3 : -9223372036854775808 ≤ x ∧ x ≤ 9223372036854775807) :
    Calls Try.prog 4 #[.agg #[.int .i64 f, .int .i64 wt], .slice A n c, .agg #[.int .i64 a, .int .i64 x]] w fun e w' => e = .returned (.bool true) ∧ Below w.heap.size w w' := by
  obtain ⟨V, hV⟩ : ∃ V, (w.alloc (.cells #[.int .i64 f, .int .i64 wt] 22)).alloc (.cells #[.int .i64 a, .int .i64 x] 22) = V := ⟨_, rfl⟩
  obtain ⟨bs, hbs⟩ : ∃ bs, w.heap.size = bs := ⟨_, rfl⟩
  have hB : Below w.heap.size w V := by rw [← hV]; exact (by repeat (first | exact Below.refl _ _ | assumption | refine bel_drew ?_ | refine bel_drewN ?_ _ | refine bel_alloc ?_ _ | refine bel_set ?_ (by first | (dsimp only; omega) | (simp; done) | (simp; omega)) _ | refine bel_trans ?_ (by assumption)))
  have hS : Hid (∀ W, Below V.heap.size V W → W.cell? ⟨bs, 0, none⟩ = some (.int .i64 f) ∧ W.cell? ⟨bs, 1, none⟩ = some (.int .i64 wt) ∧ W.cell? ⟨bs + 1, 0, none⟩ = some (.int .i64 a) ∧ W.cell? ⟨bs + 1, 1, none⟩ = some (.int .i64 x)) := Lib.hid (fun W hW => by
    have hs : bs + 1 < V.heap.size := by rw [← hV, ← hbs]; simp
    have hs' : bs < V.heap.size := by omega
    exact ⟨(hW.cell hs').trans (by rw [← hV, ← hbs]; simp [go_sem]), (hW.cell hs').trans (by rw [← hV, ← hbs]; simp [go_sem]), (hW.cell hs).trans (by rw [← hV, ← hbs]; simp [go_sem]), (hW.cell hs).trans (by rw [← hV, ← hbs]; simp [go_sem])⟩)
  have hM := h.keep hB
  have K1 := bank_May c f wt a x hM (by omega) b0 b1 b2 b3
  have hn' : decide ((16 : Int) < (n : Int)) = false := by simp; omega
  have HV := Lib.hid hV
  have HBS := Lib.hid hbs
  have HB := Lib.hid hB
  cases hb : PO.bmay f wt l a x
  · rw [hb] at K1
    replace K1 := Lib.hid K1
    clear h hM hV hbs hB b0 b1 b2 b3 hb
    go_enter Try.func4, Try.ntmps4
    go_wp2_with fail
    rw [HV.out]
    refine K1.out.mono ?_
    rintro e w1 ⟨rfl, h1⟩
    go_wp2_with fail
    refine (law29_works _).mono ?_
    rintro e w2 ⟨rfl, h2⟩
    go_wp2_with fail
    exact bodyPost_ret (v := .bool true) (by simp [results, Try.results4, go_sem]) rfl ⟨rfl, bel_trans' HB.out (bel_trans h1 h2) HB.out.size⟩
  · rw [hb] at K1
    obtain ⟨k, rfl, hk, hbad, hx1, hxf, hok, hxr, haf, hsf⟩ := bmay_facts hb
    have K2 : Hid (∀ W, Below V.heap.size V W → Calls Try.prog 21 #[.slice A n c, .int .i64 (k : Int), .int .i64 x] W (GivesMem W (l.set k ((l.getD k PO.m0).1, (l.getD k PO.m0).2.1, (l.getD k PO.m0).2.2.1 + x, (l.getD k PO.m0).2.2.2 - x), true))) := Lib.hid (fun W hW => by
      rw [← haf]
      exact bank_After c k x (hM.keep hW) (by omega) b2 b3)
    have hkn : k < n := by rw [← h.1]; exact hk
    obtain ⟨b, off, rfl, hbM, hcs⟩ := hM.2.2.2 (by omega)
    have hcl := Lib.hid (hcs k hkn)
    have hlset : ∀ v, (l.set k v).getD k PO.m0 = v := fun v => set_getD_same l v hk
    have hslen : ∀ v, (l.set k v).length = n := fun v => by rw [List.length_set, h.1]
    have HKS : Hid (∀ v (X : World) (A' : Option Addr) (n' c' : Nat), v = ((l.getD k PO.m0).1, (l.getD k PO.m0).2.1, (l.getD k PO.m0).2.2.1 + x, (l.getD k PO.m0).2.2.2 - x) → MemAt X A' n' (l.set k v) → Calls Try.prog 17 #[.int .i64 (f - x), .int .i64 wt, .slice A' n' c'] X fun e W' => e = .returned (.bool true) ∧ Below X.heap.size X W') := Lib.hid (fun v X A' n' c' hv hX => by
      subst hv
      rw [← hsf]
      obtain ⟨q0, q1, q2, q3⟩ := PO.bad_iff.1 hbad
      exact bank_Safe c' (f - x) wt hX (by have := hX.1; rw [hslen] at this; omega) (by omega) b1)
    obtain ⟨m, hm⟩ : ∃ m, l.getD k PO.m0 = m := ⟨_, rfl⟩
    rw [hm] at hok hxr hcl K2 HKS
    have hr := (PA.right_iff _ _ _).1 hok
    have KR : Hid (∀ W, Calls Try.prog 22 #[.agg #[.int .i64 m.2.1, .int .i64 (m.2.2.1 + x), .int .i64 (m.2.2.2 - x)]] W fun e W' => e = .returned (.bool true) ∧ Below W.heap.size W W') := Lib.hid (fun W => by
      have q := ref26_Right m.2.1 (m.2.2.1 + x) (m.2.2.2 - x) W (by omega) (by omega) (by omega)
      rwa [(PA.right_iff _ _ _).2 (by omega)] at q)
    have w1' : IntKind.i64.wrap (m.2.2.1 + x) = m.2.2.1 + x := IntWalk.i64_in _ (by omega)
    obtain ⟨q0, q1, q2, q3⟩ := PO.bad_iff.1 hbad
    have w2' : IntKind.i64.wrap (f - x) = f - x := IntWalk.i64_in _ (by omega)
    have HSL := Lib.hid hslen
    have HLS := Lib.hid hlset
    have j0 : (0 : Int) ≤ (k : Int) := by omega
    have j1 : (k : Int) < (n : Int) := by omega
    replace K1 := Lib.hid K1
    clear h hM hV hbs hB b0 b1 b2 b3 hb hcs hslen hlset hm hok haf hsf hbad hk
    go_enter Try.func4, Try.ntmps4
    go_wp2_with fail
    rw [HV.out, HBS.out]
    refine K1.out.mono ?_
    rintro e w1 ⟨rfl, h1⟩
    obtain ⟨p0, p1, p2, p3⟩ := hS.out w1 h1
    go_wp2_with fail
    refine (K2.out _ h1).mono ?_
    rintro e w2 ⟨A2, n2, c2, rfl, i2, h2⟩
    have b12 := bel_trans h1 h2
    have hn2 : n = n2 := by rw [← HSL.out]; exact i2.1
    subst hn2
    obtain ⟨b2, o2, rfl, hb2, hc2⟩ := i2.2.2.2 (by omega)
    obtain ⟨y0, y1, y2, y3⟩ := hc2 k hkn
    rw [HLS.out] at y0 y1 y2 y3
    dsimp only at y0 y1 y2 y3
    obtain ⟨p0, p1, p2, p3⟩ := hS.out w2 b12
    obtain ⟨x0, x1, x2, x3⟩ := hcl.out.keep b12 hbM
    have hS6 : Hid (∀ W : World, Below w2.heap.size w2 W → (fun W : World => W.cell? ⟨bs, 0, none⟩ = some (.int .i64 f) ∧ W.cell? ⟨bs, 1, none⟩ = some (.int .i64 wt) ∧ W.cell? ⟨bs + 1, 0, none⟩ = some (.int .i64 (k : Int)) ∧ W.cell? ⟨bs + 1, 1, none⟩ = some (.int .i64 x) ∧ W.cell? ⟨b, off + k * 4 + 2, none⟩ = some (.int .i64 m.2.2.1) ∧ W.cell? ⟨b2, o2 + k * 4 + 1, none⟩ = some (.int .i64 m.2.1) ∧ W.cell? ⟨b2, o2 + k * 4 + 2, none⟩ = some (.int .i64 (m.2.2.1 + x)) ∧ W.cell? ⟨b2, o2 + k * 4 + 3, none⟩ = some (.int .i64 (m.2.2.2 - x))) W) := Lib.hid (fun W hW => by
      obtain ⟨p0, p1, p2, p3⟩ := hS.out W (bel_trans b12 hW)
      have bm := Nat.lt_of_lt_of_le hbM b12.size
      exact ⟨p0, p1, p2, p3, (hW.cell bm).trans x2, (hW.cell hb2).trans y1, (hW.cell hb2).trans y2, (hW.cell hb2).trans y3⟩)
    have KS := Lib.hid (fun X (hX : Below w2.heap.size w2 X) => HKS.out _ X _ n c2 rfl (i2.keep hX))
    clear i2 hc2 y0 x0
    go_wp2_with fail
    refine wp_region_held_drew (S := (fun W : World => W.cell? ⟨bs, 0, none⟩ = some (.int .i64 f) ∧ W.cell? ⟨bs, 1, none⟩ = some (.int .i64 wt) ∧ W.cell? ⟨bs + 1, 0, none⟩ = some (.int .i64 (k : Int)) ∧ W.cell? ⟨bs + 1, 1, none⟩ = some (.int .i64 x) ∧ W.cell? ⟨b, off + k * 4 + 2, none⟩ = some (.int .i64 m.2.2.1) ∧ W.cell? ⟨b2, o2 + k * 4 + 1, none⟩ = some (.int .i64 m.2.1) ∧ W.cell? ⟨b2, o2 + k * 4 + 2, none⟩ = some (.int .i64 (m.2.2.1 + x)) ∧ W.cell? ⟨b2, o2 + k * 4 + 3, none⟩ = some (.int .i64 (m.2.2.2 - x)))) (by kernel_rfl) ?_ (fun hHeld => ?_)
    focus ((try dsimp only); exact hS6.out _ (by repeat (first | exact Below.refl _ _ | assumption | refine bel_drew ?_ | refine bel_trans ?_ (by assumption))))
    refine tk_yes 0 (v := ?_) rfl (by kernel_rfl) (by kernel_rfl) (by kernel_rfl) (fun _ _ _ h => h) (by kernel_rfl) (by assumption) ?_ ?_; rotate_left; (focus (intro w hSw; (try dsimp only at hSw); go_simp; (first | done | (with_reducible rfl)))); (try simp only [Act.put, List.setIfInBounds_toArray, List.set_cons_zero, List.set_cons_succ])
    refine tk_yes 1 (v := ?_) rfl (by kernel_rfl) (by kernel_rfl) (by kernel_rfl) (fun _ _ _ h => h) (by kernel_rfl) (by assumption) ?_ ?_; rotate_left; (focus (intro w hSw; (try dsimp only at hSw); go_simp; (first | done | (with_reducible rfl)))); (try simp only [Act.put, List.setIfInBounds_toArray, List.set_cons_zero, List.set_cons_succ])
    refine tk_yes 2 (v := ?_) rfl (by kernel_rfl) (by kernel_rfl) (by kernel_rfl) (fun _ _ _ h => h) (by kernel_rfl) (by assumption) ?_ ?_; rotate_left; (focus (intro w hSw; (try dsimp only at hSw); go_simp; (first | done | (with_reducible rfl)))); (try simp only [Act.put, List.setIfInBounds_toArray, List.set_cons_zero, List.set_cons_succ])
    refine tk_yes 3 (v := ?_) rfl (by kernel_rfl) (by kernel_rfl) (by kernel_rfl) (fun _ _ _ h => h) (by kernel_rfl) (by assumption) ?_ ?_; rotate_left; (focus (intro w hSw; (try dsimp only at hSw); go_simp; (first | done | (with_reducible rfl)))); (try simp only [Act.put, List.setIfInBounds_toArray, List.set_cons_zero, List.set_cons_succ])
    refine tk_yes 4 (v := ?_) rfl (by kernel_rfl) (by kernel_rfl) (by kernel_rfl) (fun _ _ _ h => h) (by kernel_rfl) (by assumption) ?_ ?_; rotate_left; (focus (intro w hSw; (try dsimp only at hSw); go_simp; (first | done | (with_reducible rfl)))); (try simp only [Act.put, List.setIfInBounds_toArray, List.set_cons_zero, List.set_cons_succ])
    refine tk_yes 5 (v := ?_) rfl (by kernel_rfl) (by kernel_rfl) (by kernel_rfl) (fun _ _ _ h => h) (by kernel_rfl) (by assumption) ?_ ?_; rotate_left; (focus (intro w hSw; (try dsimp only at hSw); go_simp; (first | done | (with_reducible rfl)))); (try simp only [Act.put, List.setIfInBounds_toArray, List.set_cons_zero, List.set_cons_succ])
    refine tk_yes 6 (v := ?_) rfl (by kernel_rfl) (by kernel_rfl) (by kernel_rfl) (fun _ _ _ h => h) (by kernel_rfl) (by assumption) ?_ ?_; rotate_left; (focus (intro w hSw; (try dsimp only at hSw); go_simp; (first | done | (with_reducible rfl)))); (try simp only [Act.put, List.setIfInBounds_toArray, List.set_cons_zero, List.set_cons_succ])
    refine tk_yes 7 (v := ?_) rfl (by kernel_rfl) (by kernel_rfl) (by kernel_rfl) (fun _ _ _ h => h) (by kernel_rfl) (by assumption) ?_ ?_; rotate_left; (focus (intro w hSw; (try dsimp only at hSw); go_simp; (first | done | (with_reducible rfl)))); (try simp only [Act.put, List.setIfInBounds_toArray, List.set_cons_zero, List.set_cons_succ])
    refine tk_yes 8 (v := ?_) rfl (by kernel_rfl) (by kernel_rfl) (by kernel_rfl) (fun _ _ _ h => h) (by kernel_rfl) (by assumption) ?_ ?_; rotate_left; (focus (intro w hSw; (try dsimp only at hSw); go_simp; (first | done | (with_reducible rfl)))); (try simp only [Act.put, List.setIfInBounds_toArray, List.set_cons_zero, List.set_cons_succ])
    refine tk_yes 9 (v := ?_) rfl (by kernel_rfl) (by kernel_rfl) (by kernel_rfl) (fun _ _ _ h => h) (by kernel_rfl) (by assumption) ?_ ?_; rotate_left; (focus (intro w hSw; (try dsimp only at hSw); go_simp; (first | done | (with_reducible rfl)))); (try simp only [Act.put, List.setIfInBounds_toArray, List.set_cons_zero, List.set_cons_succ])
    refine tk_yes 10 (v := ?_) rfl (by kernel_rfl) (by kernel_rfl) (by kernel_rfl) (fun _ _ _ h => h) (by kernel_rfl) (by assumption) ?_ ?_; rotate_left; (focus (intro w hSw; (try dsimp only at hSw); go_simp; (first | done | (with_reducible rfl)))); (try simp only [Act.put, List.setIfInBounds_toArray, List.set_cons_zero, List.set_cons_succ])
    refine tk_yes 11 (v := ?_) rfl (by kernel_rfl) (by kernel_rfl) (by kernel_rfl) (fun _ _ _ h => h) (by kernel_rfl) (by assumption) ?_ ?_; rotate_left; (focus (intro w hSw; (try dsimp only at hSw); go_simp; (first | done | (with_reducible rfl)))); (try simp only [Act.put, List.setIfInBounds_toArray, List.set_cons_zero, List.set_cons_succ])
    refine tk_yes 12 (v := ?_) rfl (by kernel_rfl) (by kernel_rfl) (by kernel_rfl) (fun _ _ _ h => h) (by kernel_rfl) (by assumption) ?_ ?_; rotate_left; (focus (intro w hSw; (try dsimp only at hSw); go_simp; (first | done | (with_reducible rfl)))); (try simp only [Act.put, List.setIfInBounds_toArray, List.set_cons_zero, List.set_cons_succ])
    refine tk_yes 13 (v := ?_) rfl (by kernel_rfl) (by kernel_rfl) (by kernel_rfl) (fun _ _ _ h => h) (by kernel_rfl) (by assumption) ?_ ?_; rotate_left; (focus (intro w hSw; (try dsimp only at hSw); go_simp; (first | done | (with_reducible rfl)))); (try simp only [Act.put, List.setIfInBounds_toArray, List.set_cons_zero, List.set_cons_succ])
    refine tk_yes 14 (v := ?_) rfl (by kernel_rfl) (by kernel_rfl) (by kernel_rfl) (fun _ _ _ h => h) (by kernel_rfl) (by assumption) ?_ ?_; rotate_left; (focus (intro w hSw; (try dsimp only at hSw); go_simp; (first | done | (with_reducible rfl)))); (try simp only [Act.put, List.setIfInBounds_toArray, List.set_cons_zero, List.set_cons_succ])
    refine tk_yes 15 (v := ?_) rfl (by kernel_rfl) (by kernel_rfl) (by kernel_rfl) (fun _ _ _ h => h) (by kernel_rfl) (by assumption) ?_ ?_; rotate_left; (focus (intro w hSw; (try dsimp only at hSw); go_simp; (first | done | (with_reducible rfl)))); (try simp only [Act.put, List.setIfInBounds_toArray, List.set_cons_zero, List.set_cons_succ])
    refine tk_yes 16 (v := ?_) rfl (by kernel_rfl) (by kernel_rfl) (by kernel_rfl) (fun _ _ _ h => h) (by kernel_rfl) (by assumption) ?_ ?_; rotate_left; (focus (intro w hSw; (try dsimp only at hSw); go_simp; (first | done | (with_reducible rfl)))); (try simp only [Act.put, List.setIfInBounds_toArray, List.set_cons_zero, List.set_cons_succ])
    refine tk_yes 17 (v := ?_) rfl (by kernel_rfl) (by kernel_rfl) (by kernel_rfl) (fun _ _ _ h => h) (by kernel_rfl) (by assumption) ?_ ?_; rotate_left; (focus (intro w hSw; (try dsimp only at hSw); go_simp; (first | done | (with_reducible rfl)))); (try simp only [Act.put, List.setIfInBounds_toArray, List.set_cons_zero, List.set_cons_succ])
    refine tk_yes 18 (v := ?_) rfl (by kernel_rfl) (by kernel_rfl) (by kernel_rfl) (fun _ _ _ h => h) (by kernel_rfl) (by assumption) ?_ ?_; rotate_left; (focus (intro w hSw; (try dsimp only at hSw); go_simp; (first | done | (with_reducible rfl)))); (try simp only [Act.put, List.setIfInBounds_toArray, List.set_cons_zero, List.set_cons_succ])
    refine tk_yes 19 (v := ?_) rfl (by kernel_rfl) (by kernel_rfl) (by kernel_rfl) (fun _ _ _ h => h) (by kernel_rfl) (by assumption) ?_ ?_; rotate_left; (focus (intro w hSw; (try dsimp only at hSw); go_simp; (first | done | (with_reducible rfl)))); (try simp only [Act.put, List.setIfInBounds_toArray, List.set_cons_zero, List.set_cons_succ])
    refine tk_yes 20 (v := ?_) rfl (by kernel_rfl) (by kernel_rfl) (by kernel_rfl) (fun _ _ _ h => h) (by kernel_rfl) (by assumption) ?_ ?_; rotate_left; (focus (intro w hSw; (try dsimp only at hSw); go_simp; (first | done | (with_reducible rfl)))); (try simp only [Act.put, List.setIfInBounds_toArray, List.set_cons_zero, List.set_cons_succ])
    refine tk_yes 21 (v := ?_) rfl (by kernel_rfl) (by kernel_rfl) (by kernel_rfl) (fun _ _ _ h => h) (by kernel_rfl) (by assumption) ?_ ?_; rotate_left; (focus (intro w hSw; (try dsimp only at hSw); go_simp; (first | done | (with_reducible rfl)))); (try simp only [Act.put, List.setIfInBounds_toArray, List.set_cons_zero, List.set_cons_succ])
    refine tk_yes 22 (v := ?_) rfl (by kernel_rfl) (by kernel_rfl) (by kernel_rfl) (fun _ _ _ h => h) (by kernel_rfl) (by assumption) ?_ ?_; rotate_left; (focus (intro w hSw; (try dsimp only at hSw); go_simp; (first | done | (with_reducible rfl)))); (try simp only [Act.put, List.setIfInBounds_toArray, List.set_cons_zero, List.set_cons_succ])
    refine tk_yes 23 (v := ?_) rfl (by kernel_rfl) (by kernel_rfl) (by kernel_rfl) (fun _ _ _ h => h) (by kernel_rfl) (by assumption) ?_ ?_; rotate_left; (focus (intro w hSw; (try dsimp only at hSw); go_simp; (first | done | (with_reducible rfl)))); (try simp only [Act.put, List.setIfInBounds_toArray, List.set_cons_zero, List.set_cons_succ])
    refine tk_yes 24 (v := ?_) rfl (by kernel_rfl) (by kernel_rfl) (by kernel_rfl) (fun _ _ _ h => h) (by kernel_rfl) (by assumption) ?_ ?_; rotate_left; (focus (intro w hSw; (try dsimp only at hSw); go_simp; (first | done | (with_reducible rfl)))); (try simp only [Act.put, List.setIfInBounds_toArray, List.set_cons_zero, List.set_cons_succ])
    refine tk_call 25 rfl (by kernel_rfl) (by kernel_rfl) (fun KW hKW => ?_); go_simp; go_at_call 22; refine (KR.out _).mono ?_; rintro e u1 ⟨rfl, d1⟩; refine hKW.out _ _ ?_ (fun hHeld => ?_); (focus ((try dsimp only); exact hS6.out _ (by repeat (first | exact Below.refl _ _ | assumption | refine bel_drew ?_ | refine bel_trans ?_ (by assumption))))); clear hKW KW; (try simp only [Act.put, List.setIfInBounds_toArray, List.set_cons_zero, List.set_cons_succ])
    refine tk_yes 26 (v := ?_) rfl (by kernel_rfl) (by kernel_rfl) (by kernel_rfl) (fun _ _ _ h => h) (by kernel_rfl) (by assumption) ?_ ?_; rotate_left; (focus (intro w hSw; (try dsimp only at hSw); go_simp; (first | done | (with_reducible rfl)))); (try simp only [Act.put, List.setIfInBounds_toArray, List.set_cons_zero, List.set_cons_succ])
    refine tk_yes 27 (v := ?_) rfl (by kernel_rfl) (by kernel_rfl) (by kernel_rfl) (fun _ _ _ h => h) (by kernel_rfl) (by assumption) ?_ ?_; rotate_left; (focus (intro w hSw; (try dsimp only at hSw); go_simp; (first | done | (with_reducible rfl)))); (try simp only [Act.put, List.setIfInBounds_toArray, List.set_cons_zero, List.set_cons_succ])
    refine tk_yes 28 (v := ?_) rfl (by kernel_rfl) (by kernel_rfl) (by kernel_rfl) (fun _ _ _ h => h) (by kernel_rfl) (by assumption) ?_ ?_; rotate_left; (focus (intro w hSw; (try dsimp only at hSw); go_simp; (first | done | (with_reducible rfl)))); (try simp only [Act.put, List.setIfInBounds_toArray, List.set_cons_zero, List.set_cons_succ])
    refine tk_yes 29 (v := ?_) rfl (by kernel_rfl) (by kernel_rfl) (by kernel_rfl) (fun _ _ _ h => h) (by kernel_rfl) (by assumption) ?_ ?_; rotate_left; (focus (intro w hSw; (try dsimp only at hSw); go_simp; (first | done | (with_reducible rfl)))); (try simp only [Act.put, List.setIfInBounds_toArray, List.set_cons_zero, List.set_cons_succ])
    refine tk_yes 30 (v := ?_) rfl (by kernel_rfl) (by kernel_rfl) (by kernel_rfl) (fun _ _ _ h => h) (by kernel_rfl) (by assumption) ?_ ?_; rotate_left; (focus (intro w hSw; (try dsimp only at hSw); go_simp; (first | done | (with_reducible rfl)))); (try simp only [Act.put, List.setIfInBounds_toArray, List.set_cons_zero, List.set_cons_succ])
    refine tk_yes 31 (v := ?_) rfl (by kernel_rfl) (by kernel_rfl) (by kernel_rfl) (fun _ _ _ h => h) (by kernel_rfl) (by assumption) ?_ ?_; rotate_left; (focus (intro w hSw; (try dsimp only at hSw); go_simp; (first | done | (with_reducible rfl)))); (try simp only [Act.put, List.setIfInBounds_toArray, List.set_cons_zero, List.set_cons_succ])
    refine tk_yes 32 (v := ?_) rfl (by kernel_rfl) (by kernel_rfl) (by kernel_rfl) (fun _ _ _ h => h) (by kernel_rfl) (by assumption) ?_ ?_; rotate_left; (focus (intro w hSw; (try dsimp only at hSw); go_simp; (first | done | (with_reducible rfl)))); (try simp only [Act.put, List.setIfInBounds_toArray, List.set_cons_zero, List.set_cons_succ])
    refine tk_yes 33 (v := ?_) rfl (by kernel_rfl) (by kernel_rfl) (by kernel_rfl) (fun _ _ _ h => h) (by kernel_rfl) (by assumption) ?_ ?_; rotate_left; (focus (intro w hSw; (try dsimp only at hSw); go_simp; (first | done | (with_reducible rfl)))); (try simp only [Act.put, List.setIfInBounds_toArray, List.set_cons_zero, List.set_cons_succ])
    refine tk_yes 34 (v := ?_) rfl (by kernel_rfl) (by kernel_rfl) (by kernel_rfl) (fun _ _ _ h => h) (by kernel_rfl) (by assumption) ?_ ?_; rotate_left; (focus (intro w hSw; (try dsimp only at hSw); go_simp; (first | done | (with_reducible rfl)))); (try simp only [Act.put, List.setIfInBounds_toArray, List.set_cons_zero, List.set_cons_succ])
    refine tk_yes 35 (v := ?_) rfl (by kernel_rfl) (by kernel_rfl) (by kernel_rfl) (fun _ _ _ h => h) (by kernel_rfl) (by assumption) ?_ ?_; rotate_left; (focus (intro w hSw; (try dsimp only at hSw); go_simp; (first | done | (with_reducible rfl)))); (try simp only [Act.put, List.setIfInBounds_toArray, List.set_cons_zero, List.set_cons_succ])
    refine tk_call 36 rfl (by kernel_rfl) (by kernel_rfl) (fun KW hKW => ?_); go_simp; go_at_call 17; refine (KS.out _ (by repeat (first | exact Below.refl _ _ | assumption | refine bel_drew ?_ | refine bel_trans ?_ (by assumption)))).mono ?_; rintro e u2 ⟨rfl, d2⟩; refine hKW.out _ _ ?_ (fun hHeld => ?_); (focus ((try dsimp only); exact hS6.out _ (by repeat (first | exact Below.refl _ _ | assumption | refine bel_drew ?_ | refine bel_trans ?_ (by assumption))))); clear hKW KW; (try simp only [Act.put, List.setIfInBounds_toArray, List.set_cons_zero, List.set_cons_succ])
    refine tk_yes 37 (v := ?_) rfl (by kernel_rfl) (by kernel_rfl) (by kernel_rfl) (fun _ _ _ h => h) (by kernel_rfl) (by assumption) ?_ ?_; rotate_left; (focus (intro w hSw; (try dsimp only at hSw); go_simp; (first | done | (with_reducible rfl)))); (try simp only [Act.put, List.setIfInBounds_toArray, List.set_cons_zero, List.set_cons_succ])
    refine tk_yes 38 (v := ?_) rfl (by kernel_rfl) (by kernel_rfl) (by kernel_rfl) (fun _ _ _ h => h) (by kernel_rfl) (by assumption) ?_ ?_; rotate_left; (focus (intro w hSw; (try dsimp only at hSw); go_simp; (first | done | (with_reducible rfl)))); (try simp only [Act.put, List.setIfInBounds_toArray, List.set_cons_zero, List.set_cons_succ])
    refine tk_call 39 rfl (by kernel_rfl) (by kernel_rfl) (fun KW hKW => ?_); go_simp; go_at_call 16; refine (law29_works _).mono ?_; rintro e u3 ⟨rfl, d3⟩; refine hKW.out _ _ ?_ (fun hHeld => ?_); (focus ((try dsimp only); exact hS6.out _ (by repeat (first | exact Below.refl _ _ | assumption | refine bel_drew ?_ | refine bel_trans ?_ (by assumption))))); clear hKW KW; (try simp only [Act.put, List.setIfInBounds_toArray, List.set_cons_zero, List.set_cons_succ])
    refine tk_yes 40 (v := ?_) rfl (by kernel_rfl) (by kernel_rfl) (by kernel_rfl) (fun _ _ _ h => h) (by kernel_rfl) (by assumption) ?_ ?_; rotate_left; (focus (intro w hSw; (try dsimp only at hSw); go_simp; (first | done | (with_reducible rfl)))); (try simp only [Act.put, List.setIfInBounds_toArray, List.set_cons_zero, List.set_cons_succ])
    refine tk_yes 41 (v := ?_) rfl (by kernel_rfl) (by kernel_rfl) (by kernel_rfl) (fun _ _ _ h => h) (by kernel_rfl) (by assumption) ?_ ?_; rotate_left; (focus (intro w hSw; (try dsimp only at hSw); go_simp; (first | done | (with_reducible rfl)))); (try simp only [Act.put, List.setIfInBounds_toArray, List.set_cons_zero, List.set_cons_succ])
    refine wpAnyH_done (by kernel_rfl) ?_ _
    go_wp2_with fail
    exact bodyPost_ret (v := .bool true) (by simp [results, Try.results4, go_sem]) rfl ⟨rfl, bel_trans' HB.out (bel_trans (bel_trans (bel_trans (bel_drew b12) d1) d2) d3) HB.out.size⟩

theorem law29_BankKeeps {A : Option Addr} {n : Nat} {l : List PO.Mem} (c : Nat) (f wt a x : Int) (w : World) (h : MemAt w A n l) (b0 : -9223372036854775808 ≤ f ∧ f ≤ 9223372036854775807) (b1 : -9223372036854775808 ≤ wt ∧ wt ≤ 9223372036854775807) (b2 : -9223372036854775808 ≤ a ∧ a ≤ 9223372036854775807) (b3 : -9223372036854775808 ≤ x ∧ x ≤ 9223372036854775807) :
    Calls Try.prog 4 #[.agg #[.int .i64 f, .int .i64 wt], .slice A n c, .agg #[.int .i64 a, .int .i64 x]] w fun e w' => e = .returned (.bool true) ∧ Below w.heap.size w w' := by
  rcases Nat.lt_or_ge 16 n with hn | hn
  · exact law29_BankKeeps_long A n c f wt a x w hn
  · exact law29_BankKeeps_some c f wt a x w h hn b0 b1 b2 b3
end Go.Proofs.Ythmjbfocpdiikaa
