/-
  order.Room.
-/
import Derived.Test.YthmjbfocpdiikaaOrdC
namespace Go.Proofs.Ythmjbfocpdiikaa
open Go.RowKit
set_option linter.unusedVariables false
set_option linter.unusedSimpArgs false
attribute [local go_sem] drewN_alloc drewN_setCell

theorem room_step {lack hv : Int} {p : List PO.Mem} {k : Nat} (hk : k < p.length) : PO.roomGo lack hv (p.drop k) = PO.roomGo (max lack (PO.need (p.getD k PO.m0) - hv)) (hv + (p.getD k PO.m0).2.2.1) (p.drop (k + 1)) := by
  rw [List.drop_eq_getElem_cons hk, PO.getD_at hk]
  rfl
theorem max_if (x y : Int) : max x y = if x < y then y else x := by split <;> omega
def RoomRel (V : World) (R : Int) (n : Nat) (p : List PO.Mem) (lack hv i : Value) (wr : World) : Prop :=
  ∃ (k : Nat) (x y : Int), k ≤ n ∧ i = .int .i64 k ∧ lack = .int .i64 x ∧ hv = .int .i64 y ∧ 0 ≤ x ∧ x ≤ 1048576 ∧ 0 ≤ y ∧ y ≤ 1048576 * ((k : Int) + 1) ∧ PO.roomGo x y (p.drop k) = R ∧ Below V.heap.size V wr
set_option maxRecDepth 100000 in
set_option maxHeartbeats 8000000 in
theorem order_Room {A : Option Addr} {n : Nat} {l : List PO.Mem} (c : Nat) (f : Int) {w : World} (h : MemAt w A n l) (hn : n ≤ 20) :
    Calls Try.prog 44 #[.int .i64 f, .slice A n c] w (GivesRoom w f l) := by
  have hl := h.1
  have K1 := Lib.hid (order_may c f h)
  have K2 : Hid (∀ W, Below w.heap.size w W → Calls Try.prog 69 #[.slice A n c] W (GivesM1 W l)) := Lib.hid (fun W hW => mem_Clone c (h.keep hW) (by omega))
  have hbd := Lib.hid h.2.2.1
  cases hm : PO.may f l
  · have HG : Hid (∀ W, Below w.heap.size w W → GivesRoom w f l (.returned (.int .i64 (-1))) W) := Lib.hid (fun W hW => ⟨-1, rfl, ⟨fun _ => rfl, fun h' => absurd (hm.symm.trans h') (by decide)⟩, hW⟩)
    rw [hm] at K1
    clear h hm K2 hbd
    go_enter Try.func44, Try.ntmps44
    go_wp2_with fail
    refine K1.out.mono ?_
    rintro e w1 ⟨rfl, h1⟩
    go_wp2_with fail
    go_ret
    exact HG.out _ h1
  · obtain ⟨f0, f1, fa⟩ := PO.may_iff.1 hm
    have HOK : Hid (∀ p : List PO.Mem, p.Perm l → ∀ k, k < n → PO.ok (p.getD k PO.m0) = true ∧ MemBd (p.getD k PO.m0)) := Lib.hid (fun p hp k hk => by
      have hlen := hp.length_eq
      have hmem : p.getD k PO.m0 ∈ l := hp.mem_iff.1 (by rw [PO.getD_at (by omega)]; exact List.getElem_mem _)
      exact ⟨List.all_eq_true.1 fa _ hmem, h.2.2.1 _ hmem⟩)
    have HG : Hid (∀ p W, p.Perm l → PO.Sorted p → Below w.heap.size w W → GivesRoom w f l (.returned (.int .i64 (PO.roomGo 0 f p))) W) := Lib.hid (fun p W hp hs hW => ⟨_, rfl, PO.IsRoom.of_sorted hm hp hs, hW⟩)
    rw [hm] at K1
    clear h hm fa
    go_enter Try.func44, Try.ntmps44
    go_wp2_with fail
    refine K1.out.mono ?_
    rintro e w1 ⟨rfl, h1⟩
    go_wp2_with fail
    refine (K2.out _ h1).mono ?_
    rintro e w2 ⟨v, rfl, ho, h2⟩
    obtain ⟨A2, c2, rfl, KS⟩ := sort_own hbd.out ho h2 (by omega)
    rw [hl] at KS
    replace KS := Lib.hid KS
    clear ho hbd
    rw [hl]
    go_wp2_with fail
    refine KS.out.mono ?_
    rintro e V ⟨rfl, p, hp, hs, hM, h3⟩
    rw [hl] at hM
    have hV : Below w.heap.size w V := bel_trans h1 h3
    have hpl := hM.1
    have HP := Lib.hid (fun W hW => HG.out p W hp hs hW)
    have HO := Lib.hid (HOK.out p hp)
    have HC := Lib.hid hM.2.2.2
    obtain ⟨R, hR⟩ : ∃ R, PO.roomGo 0 f p = R := ⟨_, rfl⟩
    rw [hR] at HP
    replace hR := Lib.hid hR
    clear hp hs hM HG HOK KS K2 K1
    go_wp2_with fail
    go_loopw [5, 6, 21] (fun lack hv i wr => RoomRel V R n p lack hv i wr) (fun _ _ i _ => n - (intOf i).toNat)
    case atStart => exact ⟨0, 0, f, Nat.zero_le _, rfl, rfl, rfl, by omega, by omega, f0, by omega, by rw [List.drop_zero]; exact hR.out, Below.refl _ _⟩
    case round =>
      obtain ⟨k, x, y, hk, rfl, rfl, rfl, x0, x1, y0, y1, hg, hbel⟩ := hrel
      replace hg := Lib.hid hg
      by_cases hlt : (k : Int) < (n : Int)
      · obtain ⟨b, off, rfl, hb, hcs⟩ := HC.out (by omega)
        obtain ⟨z0, z1, z2, z3⟩ := (hcs k (by omega)).keep hbel hb
        have hstep := room_step (lack := x) (hv := y) (p := p) (k := k) (by omega)
        obtain ⟨hok, bd⟩ := HO.out k (by omega)
        obtain ⟨m, hm⟩ : ∃ m, p.getD k PO.m0 = m := ⟨_, rfl⟩
        rw [hm] at z0 z1 z2 z3 hstep hok bd
        have hh := PO.ok_held hok
        have hnd := need_bd2 m
        have KN := Lib.hid (fun W => account_Need m.2.1 m.2.2.1 m.2.2.2 W bd.2.1 bd.2.2.1 bd.2.2.2)
        have en : PA.need m.2.1 m.2.2.1 m.2.2.2 = PO.need m := rfl
        rw [en] at KN
        obtain ⟨nd, hne⟩ : ∃ nd, PO.need m = nd := ⟨_, rfl⟩
        rw [hne] at KN hstep hnd
        obtain ⟨mx, hmx⟩ : ∃ mx, max x (nd - y) = mx := ⟨_, rfl⟩
        have hmx' : (if x < nd - y then nd - y else x) = mx := by rw [← max_if]; exact hmx
        have hmb : 0 ≤ mx ∧ mx ≤ 1048576 := by omega
        rw [hmx] at hstep
        have HST := Lib.hid (hstep.symm.trans hg.out)
        have w1' : IntKind.i64.wrap (nd - y) = nd - y := IntWalk.i64_in _ (by omega)
        have w2' : IntKind.i64.wrap (y + m.2.2.1) = y + m.2.2.1 := IntWalk.i64_in _ (by omega)
        have j1 : (0 : Int) ≤ (k : Int) := by omega
        clear hstep hok hm hcs en hne bd
        replace hmx := Lib.hid hmx
        have j2 : (k : Int) < (n : Int) := hlt
        go_wp2_with fail
        refine (KN.out _).mono ?_
        rintro e w4 ⟨rfl, h4⟩
        have a1 : w4.cell? ⟨wr.heap.size, 2, none⟩ = some (.int .i64 m.2.2.1) := (h4.cell (by simp)).trans (by simp [go_sem])
        go_wp2_with fail

        go_roundw
        case rel => exact ⟨k + 1, mx, y + m.2.2.1, by omega, by go_num, rfl, rfl, hmb.1, hmb.2, by omega, by push_cast; omega, HST.out, bel_trans (bel_alloc hbel _) h4⟩
        case measure => simp [intOf] <;> omega
      · have e0 : p.drop k = [] := List.drop_eq_nil_of_le (by omega)
        have hxr : x = R := by rw [← hg.out, e0]; rfl
        have HF := Lib.hid (HP.out wr (bel_trans' hV hbel hV.size))
        rw [hxr]
        go_wp2_with fail
        go_ret
        exact HF.out
end Go.Proofs.Ythmjbfocpdiikaa
