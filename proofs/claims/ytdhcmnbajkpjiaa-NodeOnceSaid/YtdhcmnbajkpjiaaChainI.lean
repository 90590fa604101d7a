/-
  Chain: the contract of List; and what none and a zero chain tell.
-/
import Derived.Test.YtdhcmnbajkpjiaaChainG
import Derived.Test.YtdhcmnbajkpjiaaGives
import Derived.Deep.LoopGhost
namespace Go.Proofs.Ytdhcmnbajkpjiaa
open Go.RowKit
set_option linter.unusedVariables false
attribute [local go_sem] drewN_alloc drewN_setCell

/-- A row of nodes, as ints. -/
def ints (r : List Nat) : List Int := r.map (fun (x : Nat) => (x : Int))
theorem ints_len (r : List Nat) : (ints r).length = r.length := by simp [ints]

theorem chain_List_no (C Nb Lb n l : Nat) (S : CS) (x : Int) (w : World) (h : ChainAt w C Nb Lb n l S) (hx : x < 0 ∨ (l : Int) ≤ x) :
    Calls Try.prog 20 #[.pointer (some ⟨C, 0, none⟩), .int .i64 x] w (GivesInts w []) := by
  have c1 := fun W hW => chain_First_no C Nb Lb n l S x W hW hx
  have C1 := Lib.hid c1
  have H := Lib.hid h
  clear c1 h hx
  go_enter Try.func20, Try.ntmps20
  go_wp2_with fail
  refine (C1.out _ H.out).mono ?_
  rintro e w1 ⟨rfl, rfl⟩
  go_wp2_with fail
  refine wp_loop_rounds 1 ?_
  rw [rounds_succ]
  go_wp2_with fail
  go_ret
  exact ⟨none, 0, 0, rfl, IntsFrom.nil, (by repeat (first | exact Below.refl _ _ | assumption | refine bel_drew ?_ | refine bel_drewN ?_ _ | refine bel_alloc ?_ _ | refine bel_set ?_ (by first | (dsimp only; omega) | (simp; done) | (simp; omega)) _ | refine bel_trans ?_ (by assumption)))⟩

theorem chain_List_nil (x : Int) (w : World) :
    Calls Try.prog 20 #[.pointer none, .int .i64 x] w (GivesInts w []) := by
  go_enter Try.func20, Try.ntmps20
  go_wp2_with fail
  refine (chain_First_nil x _).mono ?_
  rintro e w1 ⟨rfl, rfl⟩
  go_wp2_with fail
  refine wp_loop_rounds 1 ?_
  rw [rounds_succ]
  go_wp2_with fail
  go_ret
  exact ⟨none, 0, 0, rfl, IntsFrom.nil, (by repeat (first | exact Below.refl _ _ | assumption | refine bel_drew ?_ | refine bel_drewN ?_ _ | refine bel_alloc ?_ _ | refine bel_set ?_ (by first | (dsimp only; omega) | (simp; done) | (simp; omega)) _ | refine bel_trans ?_ (by assumption)))⟩

/-- What holds at the head of List's loop; g: how many nodes are still to come. -/
def ListRel (w : World) (r : List Nat) (g : Nat) (s5 s6 : Value) (wr : World) : Prop :=
  ∃ k : Nat, k + g = r.length ∧ s6 = .int .i64 (PC.headD (r.drop k)) ∧ wr.ownsRow w.heap.size 3 1 s5 k ((ints (r.take k)).map (Value.int .i64)) ∧ Below w.heap.size w wr

set_option maxHeartbeats 1000000 in
theorem chain_List_yes (C Nb Lb n l : Nat) (S : CS) (R : Nat → List Nat) (i : Nat) (w : World) (h : ChainAt w C Nb Lb n l S) (hi : PC.Inv n l S R) (hil : i < l) :
    Calls Try.prog 20 #[.pointer (some ⟨C, 0, none⟩), .int .i64 i] w (GivesInts w (ints (R i))) := by
  have hinfo : (Try.prog.info? 3).map (fun i => (i.zero, i.size, i.bytes)) = some (some (.int .i64 0), 1, 8) := by kernel_rfl
  obtain ⟨i0, hi0, hz0, hz1, hz2⟩ := info_parts hinfo
  have HI := Lib.hid hi0
  have HZ0 := Lib.hid hz0
  have HZ1 := Lib.hid hz1
  have HZ2 := Lib.hid hz2
  have c1 := fun W hW => chain_First_yes C Nb Lb n l S i W hW hil
  rw [hi.fn i hil] at c1
  have C1 := Lib.hid c1
  have H := Lib.hid h
  have hlen := hi.len hil
  have hbn := h.bn
  have hlt := Lib.hid (hi.lt i hil)
  have hnx := Lib.hid (hi.nx i hil)
  obtain ⟨r, hr⟩ : ∃ r, R i = r := ⟨_, rfl⟩
  rw [hr] at hlt hnx hlen C1 ⊢
  clear c1 h hinfo hi0 hz0 hz1 hz2 hi hr
  go_enter Try.func20, Try.ntmps20
  go_wp2_with fail
  refine (C1.out _ H.out).mono ?_
  rintro e w1 ⟨rfl, rfl⟩
  go_wp2_with fail
  go_loopg [5, 6] r.length (fun g s5 s6 wr => ListRel w r g s5 s6 wr)
  case atStart => exact ⟨0, by omega, rfl, World.ownsRow_nil _ _ _ _, Below.refl _ _⟩
  case round =>
    obtain ⟨k, hk, rfl, hown, hbel⟩ := hrel
    have HO := Lib.hid hown
    have HK := Lib.hid hk
    have HB := Lib.hid hbel
    clear hown hk hbel
    by_cases hg : gk = 0
    · have hd : r.drop k = [] := List.drop_eq_nil_of_le (by have := HK.out; omega)
      rw [hd, PC.headD_nil]
      have HT := Lib.hid (show r.take k = r from List.take_of_length_le (by have := HK.out; omega))
      clear hd hg
      go_wp2_with fail
      go_ret
      obtain ⟨A, c, hv, hi⟩ := ints_of_own HO.out (by have := HK.out; omega)
      rw [HT.out] at hi
      exact ⟨A, _, c, congrArg Ending.returned hv, hi, HB.out⟩
    · have hkl : k < r.length := by have := HK.out; omega
      have hdr := List.drop_eq_getElem_cons hkl
      obtain ⟨x, hx⟩ : ∃ x, r[k] = x := ⟨_, rfl⟩
      rw [hx] at hdr
      have hxn := hlt.out x (by rw [← hx]; exact List.getElem_mem hkl)
      have hn := hnx.out x (r.take k) (r.drop (k + 1)) (by rw [← hdr, List.take_append_drop])
      have hts : r.take (k + 1) = r.take k ++ [x] := by rw [List.take_succ_eq_append_getElem hkl, hx]
      rw [hdr, PC.headD_cons]
      have c2 := fun W hW => chain_Next_yes C Nb Lb n l S x W hW hxn
      rw [hn] at c2
      have C2 := Lib.hid c2
      have HTS := Lib.hid hts
      have HG := Lib.hid hg
      have hone : ∀ u ∈ [Value.int .i64 (x : Int)], u.oneCell' = true := by simp [Value.oneCell']
      have HONE := Lib.hid hone
      have HKL := Lib.hid hkl
      clear hdr hn hts c2 hx hg hone hkl
      have hx0 : (0 : Int) ≤ (x : Int) := by omega
      go_wp2_with (at_builtin; refine wpList_append_own _ rfl _ _ 27 rfl w.heap.size 3 i0 (.int .i64 0) 1 8 Try.underlying27 HI.out HZ0.out HZ1.out HZ2.out rfl (by decide) _ _ _ rfl (HO.out.alloc _) ⟨wr.heap.size, 0, none⟩ 1 1 [.int .i64 x] rfl rfl (cell_one_new _ _ _) HONE.out (by have := HKL.out; unfold maxLen; omega) (by have := HKL.out; omega) (by have := HB.out.size; simp; omega) ?_; intro v' w2 hown' hgrow _)
      have HO' := Lib.hid hown'
      have hb2 : Below w.heap.size w w2 := (bel_alloc HB.out _).grown hgrow (by have := HB.out.size; simp; omega) (fun g hg => (HO.out.lt g hg).1)
      have HB2 := Lib.hid hb2
      clear hown' hgrow hb2
      go_wp2_with fail
      refine (C2.out _ (H.out.keep HB2.out)).mono ?_
      rintro e w3 ⟨rfl, rfl⟩
      go_wp2_with fail
      go_roundg (gk - 1)
      case measure => have := HG.out; omega
      case rel => exact ⟨k + 1, by have := HK.out; have := HG.out; omega, rfl, by rw [HTS.out, ints, List.map_append, List.map_append]; exact HO'.out, HB2.out⟩

theorem chain_List {w : World} {C Nb Lb n l : Nat} {R : Nat → List Nat} (i : Int) (h : ChainRows w C Nb Lb n l R) :
    Calls Try.prog 20 #[.pointer (some ⟨C, 0, none⟩), .int .i64 i] w (GivesInts w (ints (PC.rowV l R i))) := by
  obtain ⟨S, h, hi⟩ := h
  by_cases hx : i < 0 ∨ (l : Int) ≤ i
  · rw [PC.rowV_out hx]
    exact chain_List_no C Nb Lb n l S i w h hx
  · obtain ⟨i', rfl⟩ : ∃ i' : Nat, i = i' := ⟨i.toNat, by omega⟩
    rw [PC.rowV_in (by omega)]
    exact chain_List_yes C Nb Lb n l S R i' w h hi (by omega)
end Go.Proofs.Ytdhcmnbajkpjiaa
