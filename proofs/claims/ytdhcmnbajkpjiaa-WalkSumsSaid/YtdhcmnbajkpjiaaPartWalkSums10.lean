/- Part 10 of the proof of WalkSums: lemmas, each with its conditions ahead of it. -/
import Derived.Test.YtdhcmnbajkpjiaaPartWalkSums9
import Derived.Test.YtdhcmnbajkpjiaaPartWalkSums1
import Derived.Test.YtdhcmnbajkpjiaaPartWalkSums3
/-
  The plain law of WalkSums: what both orders, the roots and the sizes are.
-/
namespace Go.Proofs.Ytdhcmnbajkpjiaa
open Go.RowKit
open Go.Maps
set_option linter.unusedVariables false
set_option linter.unusedSimpArgs false
variable {n : Nat} {S : FSt} {N : List Nat} {up : List Int}
/-- How many nodes the trees of some nodes have. -/
def wtW (N : List Nat) (up : List Int) (l : List Nat) : Nat := PW.wt (childW N up) (rkW N) l
theorem wtW_nil : wtW N up [] = 0 := rfl
theorem wtW_app (l m : List Nat) : wtW N up (l ++ m) = wtW N up l + wtW N up m := by unfold wtW PW.wt; rw [List.flatMap_append, List.length_append]
theorem wtW_one {x : Nat} (hx : x ∈ N) : wtW N up [x] = (preW N up (x : Int)).length := by
  rw [preW_yes ⟨by omega, by simpa using hx⟩]
  unfold wtW PW.wt
  simp
theorem wtW_take {l : List Nat} {k x : Nat} (hk : l[k]? = some x) (hx : x ∈ N) : wtW N up (l.take (k + 1)) = wtW N up (l.take k) + (preW N up (x : Int)).length := by
  rw [List.take_add_one, hk, Option.toList_some, wtW_app, wtW_one hx]
theorem wtW_le (l : List Nat) (k : Nat) : wtW N up (l.take k) ≤ wtW N up l := by
  have := wtW_app (N := N) (up := up) (l.take k) (l.drop k)
  rw [List.take_append_drop] at this
  omega
theorem par_none (hO : Ord N up) {x : Nat} (hx : x ∈ N) : up.getD x 0 = -1 ↔ parW up x = none := by
  unfold parW
  constructor
  · intro h; rw [if_neg (by omega)]
  · intro h
    rcases hO.pa x hx with h1 | ⟨p, _, h1⟩
    · exact h1
    · rw [if_pos (by omega)] at h; cases h
theorem root_iff (hO : Ord N up) (x : Nat) : x ∈ childN N up (-1) ↔ x ∈ N ∧ parW up x = none := by
  unfold childN
  rw [List.mem_filter, decide_eq_true_eq]
  constructor
  · rintro ⟨h1, h2⟩; exact ⟨h1, (par_none hO h1).1 h2⟩
  · rintro ⟨h1, h2⟩; exact ⟨h1, (par_none hO h1).2 h2⟩
theorem roots_sum (hO : Ord N up) : wtW N up (childN N up (-1)) = N.length :=
  PW.roots_all hO.is hO.nd (hO.nd.filter _) (root_iff hO)
/-- What a root's both orders are. -/
structure RootIs (N : List Nat) (up : List Int) (r : Nat) : Prop where
  len : (postW N up (r : Int)).length = (preW N up (r : Int)).length
  pos : 0 < (preW N up (r : Int)).length
  le : (preW N up (r : Int)).length ≤ N.length
  first : (preW N up (r : Int))[0]? = some r
  last : (postW N up (r : Int))[(preW N up (r : Int)).length - 1]? = some r
  inN : ∀ z, z ∈ preW N up (r : Int) → z ∈ N
  inQ : ∀ z, z ∈ preW N up (r : Int) → z ∈ postW N up (r : Int)
  nd : (preW N up (r : Int)).Nodup
  top : ∀ z, z ∈ preW N up (r : Int) → topV N up (z : Int) = (r : Int)
  within : ∀ z, z ∈ preW N up (r : Int) → (r : Int) ∈ ints (upsV N up (z : Int))
  size : ∀ z, z ∈ preW N up (r : Int) → (preW N up (z : Int)).length = wtW N up (childW N up z) + 1
theorem is_node {z : Nat} (hz : z ∈ N) : (0 : Int) ≤ (z : Int) ∧ ((z : Nat) : Int).toNat ∈ N := ⟨by omega, by simpa using hz⟩
theorem root_is (hO : Ord N up) {r : Nat} (hr : r ∈ childN N up (-1)) : RootIs N up r := by
  have h1 := (root_iff hO r).1 hr
  have hn := is_node h1.1
  have e1 : preW N up (r : Int) = PW.pre (childW N up) (rkW N) r := by rw [preW_yes hn]; simp
  have e2 : postW N up (r : Int) = PW.post (childW N up) (rkW N) r := by rw [postW_yes hn]; simp
  have f1 := PW.pre_eq hO.is.hk r
  have f2 := PW.post_eq hO.is.hk r
  have hin : ∀ z, z ∈ preW N up (r : Int) → z ∈ N := fun z hz => by rw [e1] at hz; exact PW.pre_in hO.is r h1.1 z hz
  refine ⟨postW_len hO _, by rw [e1, f1]; simp, preW_len hO _, by rw [e1, f1]; rfl, ?_, hin, fun z hz => ?_, by rw [e1]; exact PW.pre_nodup hO.is r, fun z hz => ?_, fun z hz => ?_, fun z hz => ?_⟩
  · rw [← postW_len hO, e2, f2, List.length_append, List.length_singleton, Nat.add_sub_cancel, List.getElem?_append_right (Nat.le_refl _), Nat.sub_self]
    rfl
  · rw [e2]; rw [e1] at hz; exact (PW.mem_post hO.is.hk r z).2 hz
  · have hz2 := hin z hz
    rw [e1] at hz
    have := PW.top_in hO.is h1.1 h1.2 hz
    unfold topV lastV upsV
    rw [if_pos (is_node hz2)]
    simp only [Int.toNat_natCast]
    rw [this]
  · have hz2 := hin z hz
    rw [e1] at hz
    have := (PW.within hO.is hz2 h1.1).1 hz
    unfold upsV
    rw [if_pos (is_node hz2), in_ints]
    simpa using this
  · have hz2 := hin z hz
    rw [preW_yes (is_node hz2)]
    simp only [Int.toNat_natCast]
    exact PW.size_kids hO.is z
theorem IntsAt.upto {w : World} {A : Option Addr} {m c : Nat} {xs : List Int} (h : IntsAt w A m xs) (hc : m ≤ c) {k : Nat} (hk : k ≤ m) : IntsAt w (fromA A c 0) k (xs.take k) := by
  refine ⟨by rw [List.length_take, h.1]; omega, by have := h.2.1; omega, fun h0 => ?_⟩
  obtain ⟨b, off, rfl, hb, hx⟩ := h.2.2 (by omega)
  refine ⟨b, off, ?_, hb, fun i hi => ?_⟩
  · unfold fromA
    rw [if_neg (by omega)]
    show some ((⟨b, off, none⟩ : Addr).add (0 * 1)) = _
    rw [addr_addS]; rfl
  · rw [hx i (by omega)]
    simp [List.getD, List.getElem?_take, hi]
end Go.Proofs.Ytdhcmnbajkpjiaa
/-
  The walk of WalkSums.
-/
namespace Go.Proofs.Ytdhcmnbajkpjiaa
open Go.RowKit
open Go.Maps
set_option linter.unusedVariables false
set_option linter.unusedSimpArgs false
attribute [local go_sem] drewN_alloc drewN_setCell

variable {w0 w w' : World} {own : Nat → Prop} {Fb n : Nat} {S : FSt} {N : List Nat} {up : List Int}
theorem own_named {B : Nat} {v : Value} {l : List Nat} {k : Nat} (h : OwnI B w v (ints l)) (hk : l.length = k) : ∃ A c, v = .slice A k c ∧ IntsAt w A k (ints l) ∧ k ≤ c := by
  obtain ⟨A, c, e, h1, h2, _⟩ := h.ints
  rw [ints_len, hk] at e h1 h2
  exact ⟨A, c, e, h1, h2⟩
set_option maxRecDepth 100000 in
theorem law38_WalkSums_long (A : Option Addr) (m c : Nat) (w : World) (h : (60 : Int) < (m : Int)) :
    Calls Try.prog 13 #[.slice A m c] w fun e w' => e = .returned (.bool true) ∧ Below w.heap.size w w' := by
  go_enter Try.func13, Try.ntmps13
  go_wp2_with fail
  refine (law38_works _).mono ?_
  rintro e w1 ⟨rfl, h1⟩
  go_wp2_with fail
  go_ret
  exact ⟨rfl, h1⟩
def SumO (W0 : World) (N : List Nat) (up : List Int) (Rs : List Nat) (nv i : Value) (wr : World) : Prop :=
  ∃ t : Nat, t ≤ Rs.length ∧ i = .int .i64 (t : Nat) ∧ nv = .int .i64 (wtW N up (Rs.take t) : Nat) ∧ Below W0.heap.size W0 wr
def SumK (W0 : World) (ln : Nat) (i : Value) (wr : World) : Prop := ∃ t : Nat, t ≤ ln ∧ i = .int .i64 (t : Nat) ∧ Below W0.heap.size W0 wr
def SumJ (W0 : World) (N : List Nat) (up : List Int) (Ks : List Nat) (s i : Value) (wr : World) : Prop :=
  ∃ t : Nat, t ≤ Ks.length ∧ i = .int .i64 (t : Nat) ∧ s = .int .i64 ((wtW N up (Ks.take t) + 1 : Nat) : Int) ∧ Below W0.heap.size W0 wr
theorem ints_at {w : World} {A : Option Addr} {m : Nat} {l : List Nat} (h : IntsAt w A m (ints l)) {k x : Nat} (hk : l[k]? = some x) : k < m ∧ ∃ b off, A = some ⟨b, off, none⟩ ∧ b < w.heap.size ∧ w.cell? ⟨b, off + k, none⟩ = some (.int .i64 (x : Int)) := by
  have hl : k < l.length := by
    rcases Nat.lt_or_ge k l.length with h1 | h1
    · exact h1
    · rw [List.getElem?_eq_none h1] at hk; cases hk
  have hm : k < m := by have := h.1; rw [ints_len] at this; omega
  obtain ⟨b, off, rfl, hb, hc⟩ := h.2.2 (by omega)
  refine ⟨hm, b, off, rfl, hb, ?_⟩
  rw [hc k hm]
  have e : (ints l).getD k 0 = (x : Int) := by
    rw [List.getElem?_eq_getElem hl] at hk
    have := Option.some.inj hk
    simp [ints, List.getD, hl, this]
  rw [e]
theorem overf_kids (hO : Ord N S.up) (rel : NRel n S N) (h : ForestOver w0 w own Fb n S) {z : Nat} (hz : z ∈ N) :
    Calls Try.prog 51 #[.pointer (some ⟨Fb, 0, none⟩), .int .i64 (z : Int)] w (GivesInts w (ints (childW N S.up z))) := by
  have e := rel.kids h.fi (z : Int)
  have e2 : PC.place N (z : Int) = (N.idxOf z : Nat) := by unfold PC.place; rw [if_pos (is_node hz)]; simp
  rw [e2, if_pos (by omega)] at e
  have := overf_Children (z : Int) h
  rw [← e] at this
  exact this
set_option maxRecDepth 100000 in
set_option maxHeartbeats 32000000 in
theorem law38_WalkSums (A : Option Addr) (m c : Nat) (xs : List Int) (w : World) (hA : BytesAt w A m xs) :
    Calls Try.prog 13 #[.slice A m c] w fun e w' => e = .returned (.bool true) ∧ Below w.heap.size w w' := by
  by_cases hm : (60 : Int) < (m : Int)
  · exact law38_WalkSums_long A m c w hm
  have hm2 : (m : Int) ≤ 60 := by omega
  have KG := Lib.hid (law38_grown c xs w hA (by omega))
  clear hA hm
  go_enter Try.func13, Try.ntmps13
  go_wp2_with fail
  refine KG.out.mono ?_
  rintro e w1 ⟨Fb, own, V, S, N, rfl, FO1, RI1, hO⟩
  have HO := Lib.hid hO
  obtain ⟨k, hk⟩ : ∃ k, N.length = k := ⟨_, rfl⟩
  obtain ⟨Ao, co, Ag, cg, Ac, mc, cc, f, An, cn, Ap, cp, rfl⟩ := RI1.form hk
  have HKN := Lib.hid hk
  have HK0 : Hid (k ≤ 4096) := Lib.hid (by have := RI1.2.le FO1.fi; omega)
  clear hk hO
  go_upto_region 4 with (fail)
  refine region_name ?_
  rintro W7 hW7
  have b7 : Below w1.heap.size w1 W7 := by rw [hW7]; exact (by repeat (first | exact Below.refl _ _ | assumption | refine bel_drew ?_ | refine bel_drewN ?_ _ | refine bel_alloc ?_ _ | refine bel_set ?_ (by first | (dsimp only; omega) | (simp; done) | (simp; omega)) _ | refine bel_trans ?_ (by assumption)))
  have rel := Lib.hid RI1.2
  have FO7 := Lib.hid (FO1.keep b7)
  have HOL : Hid (S.O.length = k) := Lib.hid ((RI1.2.len FO1.fi).symm.trans HKN.out)
  clear hW7 b7 FO1 RI1
  obtain ⟨Rs, hRs⟩ : ∃ Rs, S.R 30 = Rs := ⟨_, rfl⟩
  have KR := Lib.hid (overf_Roots FO7.out)
  rw [hRs] at KR
  have HRN : Hid (Rs = childN N S.up (-1)) := Lib.hid (hRs ▸ rel.out.root)
  have HRW : Hid (wtW N S.up Rs = k) := Lib.hid (by rw [HRN.out, roots_sum HO.out, HKN.out])
  clear hRs
  go_wp2_with fail
  refine KR.out.mono ?_
  rintro e w8 ⟨AR, nR, cR, rfl, iR, hbR⟩
  have IR := Lib.hid iR.1
  have FO8 := Lib.hid (FO7.out.keep hbR)
  have hnR : Hid (Rs.length = nR) := Lib.hid (by have := iR.1.1; rw [ints_len] at this; exact this)
  clear iR hbR KR FO7 KG
  go_wp2_with fail
  go_loopw [6, 7, 8, 9, 10, 11, 12, 13] (fun nv i _ _ _ _ _ _ wr => SumO w8 N S.up Rs nv i wr) (fun _ i _ _ _ _ _ _ _ => nR - (intOf i).toNat)
  case atStart => exact ⟨0, Nat.zero_le _, rfl, rfl, Below.refl _ _⟩
  case round =>
    obtain ⟨wo, rfl⟩ : ∃ wo, wo = wr := ⟨_, rfl⟩
    obtain ⟨t, ht, rfl, rfl, hb⟩ := hrel
    have HB := Lib.hid hb
    rw [hnR.out] at ht
    have hsz := hb.size
    clear hb
    by_cases hlt : t < nR
    · have hltI : (t : Int) < (nR : Int) := by omega
      have ht0 : (0 : Int) ≤ (t : Int) := by omega
      obtain ⟨r, hr⟩ : ∃ r, Rs[t]? = some r := ⟨_, List.getElem?_eq_getElem (by rw [hnR.out]; exact hlt)⟩
      have HR := Lib.hid hr
      have HRI : Hid (RootIs N S.up r) := Lib.hid (root_is HO.out (by rw [← HRN.out]; exact List.mem_of_getElem? hr))
      have hrN : r ∈ N := ((root_iff HO.out r).1 (by rw [← HRN.out]; exact List.mem_of_getElem? hr)).1
      obtain ⟨-, bR, oR, rfl, hbR, xR⟩ := ints_at (IR.out.keep HB.out) hr
      have HW2 := Lib.hid (wtW_take (up := S.up) hr hrN)
      have HWL := Lib.hid (wtW_le (N := N) (up := S.up) Rs (t + 1))
      obtain ⟨L, hL⟩ : ∃ L, preW N S.up (r : Int) = L := ⟨_, rfl⟩
      obtain ⟨Q, hQ⟩ : ∃ Q, postW N S.up (r : Int) = Q := ⟨_, rfl⟩
      obtain ⟨s0, hs0⟩ : ∃ s, wtW N S.up (Rs.take t) = s := ⟨_, rfl⟩
      obtain ⟨ln, hln⟩ : ∃ ln, L.length = ln := ⟨_, rfl⟩
      have HL := Lib.hid hL
      have HQ := Lib.hid hQ
      have HS0 := Lib.hid hs0
      have HLN := Lib.hid hln
      rw [hL, hs0, hln] at HW2
      have HQN : Hid (Q.length = ln) := Lib.hid (by rw [← hQ, ← hln, ← hL]; exact HRI.out.len)
      have hsum : s0 + ln ≤ 4096 := by have := HW2.out; have := HWL.out; have := HRW.out; have := HK0.out; omega
      have hw1 : IntKind.i64.wrap ((s0 : Int) + (ln : Int)) = ((s0 + ln : Nat) : Int) := by rw [IntKind.wrap_i64]; omega
      have KS : Hid (∀ W, Below wo.heap.size wo W → Calls Try.prog 76 #[.pointer (some ⟨Fb, 0, none⟩), .int .i64 (r : Int)] W fun e w' => e = .returned (.int .i64 (ln : Nat)) ∧ Below W.heap.size W w') := Lib.hid (fun W hW => by have := walk_Size (r : Int) HO.out rel.out (FO8.out.keep (bel_trans HB.out hW)); rwa [HL.out, HLN.out] at this)
      have KP : Hid (∀ W, Below wo.heap.size wo W → Calls Try.prog 72 #[.pointer (some ⟨Fb, 0, none⟩), .int .i64 (r : Int)] W (GivesOwnI W (ints L))) := Lib.hid (fun W hW => by have := walk_PreO (r : Int) HO.out rel.out (FO8.out.keep (bel_trans HB.out hW)); rwa [HL.out] at this)
      have KQ : Hid (∀ W, Below wo.heap.size wo W → Calls Try.prog 74 #[.pointer (some ⟨Fb, 0, none⟩), .int .i64 (r : Int)] W (GivesInts W (ints Q))) := Lib.hid (fun W hW => by have := walk_Post (r : Int) HO.out rel.out (FO8.out.keep (bel_trans HB.out hW)); rwa [HQ.out] at this)
      rw [hs0]
      clear hr hL hQ hs0 hln hrN
      go_wp2_with fail
      refine (KS.out _ (Below.refl _ _)).mono ?_
      rintro e w9 ⟨rfl, hb9⟩
      have x9 := (hb9.cell (p := ⟨bR, oR + t, none⟩) hbR).trans xR
      have lt9 : bR < w9.heap.size := Nat.lt_of_lt_of_le hbR hb9.size
      have HB9 := Lib.hid hb9
      clear xR KS hb9
      go_upto_region 10 with (fail)
      have hS : Hid (∀ W : World, Below w9.heap.size w9 W → (fun W : World => W.cell? ⟨bR, oR + t, none⟩ = some (.int .i64 (r : Int))) W) := Lib.hid (fun W hW => (hW.cell (p := ⟨bR, oR + t, none⟩) lt9).trans x9)
      refine wp_region_held_drew (S := (fun W : World => W.cell? ⟨bR, oR + t, none⟩ = some (.int .i64 (r : Int)))) (by kernel_rfl) ?_ (fun hHeld => ?_)
      focus ((try dsimp only); first | exact q | exact hS.out _ (by repeat (first | exact Below.refl _ _ | assumption | refine bel_drew ?_ | refine bel_drewN ?_ _ | refine bel_alloc ?_ _ | refine bel_trans ?_ (by assumption))))
      refine tk_yes 0 (v := ?_) rfl (by kernel_rfl) (by kernel_rfl) (by kernel_rfl) (fun _ _ _ h => h) (by kernel_rfl) (by assumption) ?_ ?_; rotate_left; (focus (intro w hSw; (try dsimp only at hSw); go_simp; (first | done | (with_reducible rfl)))); (try simp only [Act.put, List.setIfInBounds_toArray, List.set_cons_zero, List.set_cons_succ])
      refine tk_yes 1 (v := ?_) rfl (by kernel_rfl) (by kernel_rfl) (by kernel_rfl) (fun _ _ _ h => h) (by kernel_rfl) (by assumption) ?_ ?_; rotate_left; (focus (intro w hSw; (try dsimp only at hSw); go_simp; (first | done | (with_reducible rfl)))); (try simp only [Act.put, List.setIfInBounds_toArray, List.set_cons_zero, List.set_cons_succ])
      refine tk_yes 2 (v := ?_) rfl (by kernel_rfl) (by kernel_rfl) (by kernel_rfl) (fun _ _ _ h => h) (by kernel_rfl) (by assumption) ?_ ?_; rotate_left; (focus (intro w hSw; (try dsimp only at hSw); go_simp; (first | done | (with_reducible rfl)))); (try simp only [Act.put, List.setIfInBounds_toArray, List.set_cons_zero, List.set_cons_succ])
      refine tk_yes 3 (v := ?_) rfl (by kernel_rfl) (by kernel_rfl) (by kernel_rfl) (fun _ _ _ h => h) (by kernel_rfl) (by assumption) ?_ ?_; rotate_left; (focus (intro w hSw; (try dsimp only at hSw); go_simp; (first | done | (with_reducible rfl)))); (try simp only [Act.put, List.setIfInBounds_toArray, List.set_cons_zero, List.set_cons_succ])
      refine tk_yes 4 (v := ?_) rfl (by kernel_rfl) (by kernel_rfl) (by kernel_rfl) (fun _ _ _ h => h) (by kernel_rfl) (by assumption) ?_ ?_; rotate_left; (focus (intro w hSw; (try dsimp only at hSw); go_simp; (first | done | (with_reducible rfl)))); (try simp only [Act.put, List.setIfInBounds_toArray, List.set_cons_zero, List.set_cons_succ])
      refine tk_yes 6 (v := ?_) rfl (by kernel_rfl) (by kernel_rfl) (by kernel_rfl) (fun _ _ _ h => h) (by kernel_rfl) (by assumption) ?_ ?_; rotate_left; (focus (intro w hSw; (try dsimp only at hSw); go_simp; (first | done | (with_reducible rfl)))); (try simp only [Act.put, List.setIfInBounds_toArray, List.set_cons_zero, List.set_cons_succ])
      refine tk_yes 7 (v := ?_) rfl (by kernel_rfl) (by kernel_rfl) (by kernel_rfl) (fun _ _ _ h => h) (by kernel_rfl) (by assumption) ?_ ?_; rotate_left; (focus (intro w hSw; (try dsimp only at hSw); go_simp; (first | done | (with_reducible rfl)))); (try simp only [Act.put, List.setIfInBounds_toArray, List.set_cons_zero, List.set_cons_succ])
      refine tk_yes 8 (v := ?_) rfl (by kernel_rfl) (by kernel_rfl) (by kernel_rfl) (fun _ _ _ h => h) (by kernel_rfl) (by assumption) ?_ ?_; rotate_left; (focus (intro w hSw; (try dsimp only at hSw); go_simp; (first | done | (with_reducible rfl)))); (try simp only [Act.put, List.setIfInBounds_toArray, List.set_cons_zero, List.set_cons_succ])
      refine tk_yes 9 (v := ?_) rfl (by kernel_rfl) (by kernel_rfl) (by kernel_rfl) (fun _ _ _ h => h) (by kernel_rfl) (by assumption) ?_ ?_; rotate_left; (focus (intro w hSw; (try dsimp only at hSw); go_simp; (first | done | (with_reducible rfl)))); (try simp only [Act.put, List.setIfInBounds_toArray, List.set_cons_zero, List.set_cons_succ])
      refine tk_yes 10 (v := ?_) rfl (by kernel_rfl) (by kernel_rfl) (by kernel_rfl) (fun _ _ _ h => h) (by kernel_rfl) (by assumption) ?_ ?_; rotate_left; (focus (intro w hSw; (try dsimp only at hSw); go_simp; (first | done | (with_reducible rfl)))); (try simp only [Act.put, List.setIfInBounds_toArray, List.set_cons_zero, List.set_cons_succ])
      refine tk_call 5 rfl (by kernel_rfl) (by kernel_rfl) (fun KW hKW => ?_); go_simp; go_at_call 72; refine (KP.out _ (bel_trans HB9.out (by repeat (first | exact Below.refl _ _ | assumption | refine bel_drew ?_ | refine bel_drewN ?_ _ | refine bel_alloc ?_ _ | refine bel_trans ?_ (by assumption))))).mono ?_; rintro e u5 ⟨v5, rfl, o5, hb5⟩; obtain ⟨A5, c5, rfl, i5, cc5⟩ := own_named o5 HLN.out; have B5 := bel_to (W0 := w9) (by repeat (first | exact Below.refl _ _ | assumption | refine bel_drew ?_ | refine bel_drewN ?_ _ | refine bel_alloc ?_ _ | refine bel_trans ?_ (by assumption))) hb5; have I5 := Lib.hid i5; have C5 := Lib.hid cc5; have q := hS.out _ B5; clear o5 i5 cc5; refine hKW.out _ _ ?_ (fun hHeld => ?_); (focus ((try dsimp only); first | exact q | exact hS.out _ (by repeat (first | exact Below.refl _ _ | assumption | refine bel_drew ?_ | refine bel_drewN ?_ _ | refine bel_alloc ?_ _ | refine bel_trans ?_ (by assumption))))); clear hKW KW; (try simp only [Act.put, List.setIfInBounds_toArray, List.set_cons_zero, List.set_cons_succ])
      refine tk_call 11 rfl (by kernel_rfl) (by kernel_rfl) (fun KW hKW => ?_); go_simp; go_at_call 74; refine (KQ.out _ (bel_trans HB9.out (by repeat (first | exact Below.refl _ _ | assumption | refine bel_drew ?_ | refine bel_drewN ?_ _ | refine bel_alloc ?_ _ | refine bel_trans ?_ (by assumption))))).mono ?_; rintro e u11 ⟨A11, n11, c11, rfl, i11, hb11⟩; have B11 := bel_to (W0 := w9) (by repeat (first | exact Below.refl _ _ | assumption | refine bel_drew ?_ | refine bel_drewN ?_ _ | refine bel_alloc ?_ _ | refine bel_trans ?_ (by assumption))) hb11; have e11 : ln = n11 := (by have := i11.1.1; rw [ints_len, HQN.out] at this; exact this); subst e11; have I11 := Lib.hid i11.1; have q := hS.out _ B11; clear i11; refine hKW.out _ _ ?_ (fun hHeld => ?_); (focus ((try dsimp only); first | exact q | exact hS.out _ (by repeat (first | exact Below.refl _ _ | assumption | refine bel_drew ?_ | refine bel_drewN ?_ _ | refine bel_alloc ?_ _ | refine bel_trans ?_ (by assumption))))); clear hKW KW; (try simp only [Act.put, List.setIfInBounds_toArray, List.set_cons_zero, List.set_cons_succ])
      refine tk_yes 12 (v := ?_) rfl (by kernel_rfl) (by kernel_rfl) (by kernel_rfl) (fun _ _ _ h => h) (by kernel_rfl) (by assumption) ?_ ?_; rotate_left; (focus (intro w hSw; (try dsimp only at hSw); go_simp; (first | done | (with_reducible rfl)))); (try simp only [Act.put, List.setIfInBounds_toArray, List.set_cons_zero, List.set_cons_succ])
      refine tk_yes 13 (v := ?_) rfl (by kernel_rfl) (by kernel_rfl) (by kernel_rfl) (fun _ _ _ h => h) (by kernel_rfl) (by assumption) ?_ ?_; rotate_left; (focus (intro w hSw; (try dsimp only at hSw); go_simp; (first | done | (with_reducible rfl)))); (try simp only [Act.put, List.setIfInBounds_toArray, List.set_cons_zero, List.set_cons_succ])
      refine wpAnyH_done (by kernel_rfl) ?_ _
      obtain ⟨wU, rfl⟩ : ∃ wU, wU = u11 := ⟨_, rfl⟩
      have hI5 := I5.out.keep hb11
      have hFI : L[0]? = some r := by rw [← HL.out]; exact HRI.out.first
      have hpos : 0 < ln := by rw [← HLN.out, ← HL.out]; exact HRI.out.pos
      obtain ⟨l1, hl1⟩ : ∃ l1, ln - 1 = l1 := ⟨_, rfl⟩
      have hLA : Q[l1]? = some r := by rw [← hl1, ← HLN.out, ← HL.out, ← HQ.out]; exact HRI.out.last
      obtain ⟨-, bL, oL, rfl, hbL, xL⟩ := ints_at hI5 hFI
      obtain ⟨-, bQ, oQ, rfl, hbQ, xQ⟩ := ints_at I11.out hLA
      rw [Nat.add_zero] at xL
      have xr := hS.out _ B11
      have lr : bR < wU.heap.size := Nat.lt_of_lt_of_le lt9 B11.size
      have HI5 := Lib.hid hI5
      have hS1 : Hid (∀ W : World, Below wU.heap.size wU W → (fun W : World => W.cell? ⟨bR, oR + t, none⟩ = some (.int .i64 (r : Int)) ∧ W.cell? ⟨bL, oL, none⟩ = some (.int .i64 (r : Int)) ∧ W.cell? ⟨bQ, oQ + l1, none⟩ = some (.int .i64 (r : Int))) W) := Lib.hid (fun W hW => ⟨(hW.cell (p := ⟨bR, oR + t, none⟩) lr).trans xr, (hW.cell (p := ⟨bL, oL, none⟩) hbL).trans xL, (hW.cell (p := ⟨bQ, oQ + l1, none⟩) hbQ).trans xQ⟩)
      have gl0 : ((ln : Int) == 0) = false := by simp; omega
      have gl1 : (0 : Int) < (ln : Int) := by omega
      have gw1 : IntKind.i64.wrap ((ln : Int) - 1) = (l1 : Int) := by rw [IntKind.wrap_i64]; omega
      have gl2 : (l1 : Int) < (ln : Int) := by omega
      have gl3 : (0 : Int) ≤ (l1 : Int) := by omega
      have HB11 := Lib.hid B11
      have HBO := Lib.hid (bel_trans' HB.out (bel_trans' HB9.out B11 HB9.out.size) HB.out.size)
      clear hI5 hFI hLA xL xQ xr lr hbL hbQ hl1 I5 hb5 hb11 B5 B11 q x9 lt9 hbR hS KP KQ
      go_upto_region 11 with (fail)
      refine wp_region_held_drew (S := (fun W : World => W.cell? ⟨bR, oR + t, none⟩ = some (.int .i64 (r : Int)) ∧ W.cell? ⟨bL, oL, none⟩ = some (.int .i64 (r : Int)) ∧ W.cell? ⟨bQ, oQ + l1, none⟩ = some (.int .i64 (r : Int)))) (by kernel_rfl) ?_ (fun hHeld => ?_)
      focus ((try dsimp only); exact hS1.out _ (by repeat (first | exact Below.refl _ _ | assumption | refine bel_drew ?_ | refine bel_drewN ?_ _ | refine bel_alloc ?_ _ | refine bel_trans ?_ (by assumption))))
      refine tk_yes 0 (v := ?_) rfl (by kernel_rfl) (by kernel_rfl) (by kernel_rfl) (fun _ _ _ h => h) (by kernel_rfl) (by assumption) ?_ ?_; rotate_left; (focus (intro w hSw; (try dsimp only at hSw); go_simp; (first | done | (with_reducible rfl)))); (try simp only [Act.put, List.setIfInBounds_toArray, List.set_cons_zero, List.set_cons_succ])
      refine tk_yes 1 (v := ?_) rfl (by kernel_rfl) (by kernel_rfl) (by kernel_rfl) (fun _ _ _ h => h) (by kernel_rfl) (by assumption) ?_ ?_; rotate_left; (focus (intro w hSw; (try dsimp only at hSw); go_simp; (first | done | (with_reducible rfl)))); (try simp only [Act.put, List.setIfInBounds_toArray, List.set_cons_zero, List.set_cons_succ])
      refine tk_yes 2 (v := ?_) rfl (by kernel_rfl) (by kernel_rfl) (by kernel_rfl) (fun _ _ _ h => h) (by kernel_rfl) (by assumption) ?_ ?_; rotate_left; (focus (intro w hSw; (try dsimp only at hSw); go_simp; (first | done | (with_reducible rfl)))); (try simp only [Act.put, List.setIfInBounds_toArray, List.set_cons_zero, List.set_cons_succ])
      refine tk_yes 3 (v := ?_) rfl (by kernel_rfl) (by kernel_rfl) (by kernel_rfl) (fun _ _ _ h => h) (by kernel_rfl) (by assumption) ?_ ?_; rotate_left; (focus (intro w hSw; (try dsimp only at hSw); go_simp; (first | done | (with_reducible rfl)))); (try simp only [Act.put, List.setIfInBounds_toArray, List.set_cons_zero, List.set_cons_succ])
      refine tk_yes 4 (v := ?_) rfl (by kernel_rfl) (by kernel_rfl) (by kernel_rfl) (fun _ _ _ h => h) (by kernel_rfl) (by assumption) ?_ ?_; rotate_left; (focus (intro w hSw; (try dsimp only at hSw); go_simp; (first | done | (with_reducible rfl)))); (try simp only [Act.put, List.setIfInBounds_toArray, List.set_cons_zero, List.set_cons_succ])
      refine tk_yes 5 (v := ?_) rfl (by kernel_rfl) (by kernel_rfl) (by kernel_rfl) (fun _ _ _ h => h) (by kernel_rfl) (by assumption) ?_ ?_; rotate_left; (focus (intro w hSw; (try dsimp only at hSw); go_simp; (first | done | (with_reducible rfl)))); (try simp only [Act.put, List.setIfInBounds_toArray, List.set_cons_zero, List.set_cons_succ])
      refine tk_yes 6 (v := ?_) rfl (by kernel_rfl) (by kernel_rfl) (by kernel_rfl) (fun _ _ _ h => h) (by kernel_rfl) (by assumption) ?_ ?_; rotate_left; (focus (intro w hSw; (try dsimp only at hSw); go_simp; (first | done | (with_reducible rfl)))); (try simp only [Act.put, List.setIfInBounds_toArray, List.set_cons_zero, List.set_cons_succ])
      refine tk_yes 7 (v := ?_) rfl (by kernel_rfl) (by kernel_rfl) (by kernel_rfl) (fun _ _ _ h => h) (by kernel_rfl) (by assumption) ?_ ?_; rotate_left; (focus (intro w hSw; (try dsimp only at hSw); go_simp; (first | done | (with_reducible rfl)))); (try simp only [Act.put, List.setIfInBounds_toArray, List.set_cons_zero, List.set_cons_succ])
      refine tk_yes 8 (v := ?_) rfl (by kernel_rfl) (by kernel_rfl) (by kernel_rfl) (fun _ _ _ h => h) (by kernel_rfl) (by assumption) ?_ ?_; rotate_left; (focus (intro w hSw; (try dsimp only at hSw); go_simp; (first | done | (with_reducible rfl)))); (try simp only [Act.put, List.setIfInBounds_toArray, List.set_cons_zero, List.set_cons_succ])
      refine tk_yes 9 (v := ?_) rfl (by kernel_rfl) (by kernel_rfl) (by kernel_rfl) (fun _ _ _ h => h) (by kernel_rfl) (by assumption) ?_ ?_; rotate_left; (focus (intro w hSw; (try dsimp only at hSw); go_simp; (first | done | (with_reducible rfl)))); (try simp only [Act.put, List.setIfInBounds_toArray, List.set_cons_zero, List.set_cons_succ])
      refine tk_yes 10 (v := ?_) rfl (by kernel_rfl) (by kernel_rfl) (by kernel_rfl) (fun _ _ _ h => h) (by kernel_rfl) (by assumption) ?_ ?_; rotate_left; (focus (intro w hSw; (try dsimp only at hSw); go_simp; (first | done | (with_reducible rfl)))); (try simp only [Act.put, List.setIfInBounds_toArray, List.set_cons_zero, List.set_cons_succ])
      refine tk_yes 11 (v := ?_) rfl (by kernel_rfl) (by kernel_rfl) (by kernel_rfl) (fun _ _ _ h => h) (by kernel_rfl) (by assumption) ?_ ?_; rotate_left; (focus (intro w hSw; (try dsimp only at hSw); go_simp; (first | done | (with_reducible rfl)))); (try simp only [Act.put, List.setIfInBounds_toArray, List.set_cons_zero, List.set_cons_succ])
      refine tk_yes 12 (v := ?_) rfl (by kernel_rfl) (by kernel_rfl) (by kernel_rfl) (fun _ _ _ h => h) (by kernel_rfl) (by assumption) ?_ ?_; rotate_left; (focus (intro w hSw; (try dsimp only at hSw); go_simp; (first | done | (with_reducible rfl)))); (try simp only [Act.put, List.setIfInBounds_toArray, List.set_cons_zero, List.set_cons_succ])
      refine tk_yes 13 (v := ?_) rfl (by kernel_rfl) (by kernel_rfl) (by kernel_rfl) (fun _ _ _ h => h) (by kernel_rfl) (by assumption) ?_ ?_; rotate_left; (focus (intro w hSw; (try dsimp only at hSw); go_simp; (first | done | (with_reducible rfl)))); (try simp only [Act.put, List.setIfInBounds_toArray, List.set_cons_zero, List.set_cons_succ])
      refine tk_yes 14 (v := ?_) rfl (by kernel_rfl) (by kernel_rfl) (by kernel_rfl) (fun _ _ _ h => h) (by kernel_rfl) (by assumption) ?_ ?_; rotate_left; (focus (intro w hSw; (try dsimp only at hSw); go_simp; (first | done | (with_reducible rfl)))); (try simp only [Act.put, List.setIfInBounds_toArray, List.set_cons_zero, List.set_cons_succ])
      refine tk_yes 15 (v := ?_) rfl (by kernel_rfl) (by kernel_rfl) (by kernel_rfl) (fun _ _ _ h => h) (by kernel_rfl) (by assumption) ?_ ?_; rotate_left; (focus (intro w hSw; (try dsimp only at hSw); go_simp; (first | done | (with_reducible rfl)))); (try simp only [Act.put, List.setIfInBounds_toArray, List.set_cons_zero, List.set_cons_succ])
      refine tk_yes 16 (v := ?_) rfl (by kernel_rfl) (by kernel_rfl) (by kernel_rfl) (fun _ _ _ h => h) (by kernel_rfl) (by assumption) ?_ ?_; rotate_left; (focus (intro w hSw; (try dsimp only at hSw); go_simp; (first | done | (with_reducible rfl)))); (try simp only [Act.put, List.setIfInBounds_toArray, List.set_cons_zero, List.set_cons_succ])
      refine tk_yes 17 (v := ?_) rfl (by kernel_rfl) (by kernel_rfl) (by kernel_rfl) (fun _ _ _ h => h) (by kernel_rfl) (by assumption) ?_ ?_; rotate_left; (focus (intro w hSw; (try dsimp only at hSw); go_simp; (first | done | (with_reducible rfl)))); (try simp only [Act.put, List.setIfInBounds_toArray, List.set_cons_zero, List.set_cons_succ])
      refine tk_yes 18 (v := ?_) rfl (by kernel_rfl) (by kernel_rfl) (by kernel_rfl) (fun _ _ _ h => h) (by kernel_rfl) (by assumption) ?_ ?_; rotate_left; (focus (intro w hSw; (try dsimp only at hSw); go_simp; (first | done | (with_reducible rfl)))); (try simp only [Act.put, List.setIfInBounds_toArray, List.set_cons_zero, List.set_cons_succ])
      refine tk_yes 19 (v := ?_) rfl (by kernel_rfl) (by kernel_rfl) (by kernel_rfl) (fun _ _ _ h => h) (by kernel_rfl) (by assumption) ?_ ?_; rotate_left; (focus (intro w hSw; (try dsimp only at hSw); go_simp; (first | done | (with_reducible rfl)))); (try simp only [Act.put, List.setIfInBounds_toArray, List.set_cons_zero, List.set_cons_succ])
      refine tk_yes 20 (v := ?_) rfl (by kernel_rfl) (by kernel_rfl) (by kernel_rfl) (fun _ _ _ h => h) (by kernel_rfl) (by assumption) ?_ ?_; rotate_left; (focus (intro w hSw; (try dsimp only at hSw); go_simp; (first | done | (with_reducible rfl)))); (try simp only [Act.put, List.setIfInBounds_toArray, List.set_cons_zero, List.set_cons_succ])
      refine tk_yes 21 (v := ?_) rfl (by kernel_rfl) (by kernel_rfl) (by kernel_rfl) (fun _ _ _ h => h) (by kernel_rfl) (by assumption) ?_ ?_; rotate_left; (focus (intro w hSw; (try dsimp only at hSw); go_simp; (first | done | (with_reducible rfl)))); (try simp only [Act.put, List.setIfInBounds_toArray, List.set_cons_zero, List.set_cons_succ])
      refine tk_yes 22 (v := ?_) rfl (by kernel_rfl) (by kernel_rfl) (by kernel_rfl) (fun _ _ _ h => h) (by kernel_rfl) (by assumption) ?_ ?_; rotate_left; (focus (intro w hSw; (try dsimp only at hSw); go_simp; (first | done | (with_reducible rfl)))); (try simp only [Act.put, List.setIfInBounds_toArray, List.set_cons_zero, List.set_cons_succ])
      refine tk_yes 23 (v := ?_) rfl (by kernel_rfl) (by kernel_rfl) (by kernel_rfl) (fun _ _ _ h => h) (by kernel_rfl) (by assumption) ?_ ?_; rotate_left; (focus (intro w hSw; (try dsimp only at hSw); go_simp; (first | done | (with_reducible rfl)))); (try simp only [Act.put, List.setIfInBounds_toArray, List.set_cons_zero, List.set_cons_succ])
      refine tk_yes 24 (v := ?_) rfl (by kernel_rfl) (by kernel_rfl) (by kernel_rfl) (fun _ _ _ h => h) (by kernel_rfl) (by assumption) ?_ ?_; rotate_left; (focus (intro w hSw; (try dsimp only at hSw); go_simp; (first | done | (with_reducible rfl)))); (try simp only [Act.put, List.setIfInBounds_toArray, List.set_cons_zero, List.set_cons_succ])
      refine tk_yes 25 (v := ?_) rfl (by kernel_rfl) (by kernel_rfl) (by kernel_rfl) (fun _ _ _ h => h) (by kernel_rfl) (by assumption) ?_ ?_; rotate_left; (focus (intro w hSw; (try dsimp only at hSw); go_simp; (first | done | (with_reducible rfl)))); (try simp only [Act.put, List.setIfInBounds_toArray, List.set_cons_zero, List.set_cons_succ])
      refine tk_yes 26 (v := ?_) rfl (by kernel_rfl) (by kernel_rfl) (by kernel_rfl) (fun _ _ _ h => h) (by kernel_rfl) (by assumption) ?_ ?_; rotate_left; (focus (intro w hSw; (try dsimp only at hSw); go_simp; (first | done | (with_reducible rfl)))); (try simp only [Act.put, List.setIfInBounds_toArray, List.set_cons_zero, List.set_cons_succ])
      refine tk_yes 27 (v := ?_) rfl (by kernel_rfl) (by kernel_rfl) (by kernel_rfl) (fun _ _ _ h => h) (by kernel_rfl) (by assumption) ?_ ?_; rotate_left; (focus (intro w hSw; (try dsimp only at hSw); go_simp; (first | done | (with_reducible rfl)))); (try simp only [Act.put, List.setIfInBounds_toArray, List.set_cons_zero, List.set_cons_succ])
      refine tk_yes 28 (v := ?_) rfl (by kernel_rfl) (by kernel_rfl) (by kernel_rfl) (fun _ _ _ h => h) (by kernel_rfl) (by assumption) ?_ ?_; rotate_left; (focus (intro w hSw; (try dsimp only at hSw); go_simp; (first | done | (with_reducible rfl)))); (try simp only [Act.put, List.setIfInBounds_toArray, List.set_cons_zero, List.set_cons_succ])
      refine tk_yes 29 (v := ?_) rfl (by kernel_rfl) (by kernel_rfl) (by kernel_rfl) (fun _ _ _ h => h) (by kernel_rfl) (by assumption) ?_ ?_; rotate_left; (focus (intro w hSw; (try dsimp only at hSw); go_simp; (first | done | (with_reducible rfl)))); (try simp only [Act.put, List.setIfInBounds_toArray, List.set_cons_zero, List.set_cons_succ])
      refine tk_yes 30 (v := ?_) rfl (by kernel_rfl) (by kernel_rfl) (by kernel_rfl) (fun _ _ _ h => h) (by kernel_rfl) (by assumption) ?_ ?_; rotate_left; (focus (intro w hSw; (try dsimp only at hSw); go_simp; (first | done | (with_reducible rfl)))); (try simp only [Act.put, List.setIfInBounds_toArray, List.set_cons_zero, List.set_cons_succ])
      refine tk_yes 31 (v := ?_) rfl (by kernel_rfl) (by kernel_rfl) (by kernel_rfl) (fun _ _ _ h => h) (by kernel_rfl) (by assumption) ?_ ?_; rotate_left; (focus (intro w hSw; (try dsimp only at hSw); go_simp; (first | done | (with_reducible rfl)))); (try simp only [Act.put, List.setIfInBounds_toArray, List.set_cons_zero, List.set_cons_succ])
      refine tk_yes 32 (v := ?_) rfl (by kernel_rfl) (by kernel_rfl) (by kernel_rfl) (fun _ _ _ h => h) (by kernel_rfl) (by assumption) ?_ ?_; rotate_left; (focus (intro w hSw; (try dsimp only at hSw); go_simp; (first | done | (with_reducible rfl)))); (try simp only [Act.put, List.setIfInBounds_toArray, List.set_cons_zero, List.set_cons_succ])
      refine wpAnyH_done (by kernel_rfl) ?_ _
      go_wp2_with fail
      go_loopw [10, 11, 12, 13] (fun kv _ _ _ wr => SumK wU ln kv wr) (fun kv _ _ _ _ => ln - (intOf kv).toNat)
      case atStart => exact ⟨0, Nat.zero_le _, rfl, (by repeat (first | exact Below.refl _ _ | assumption | refine bel_drew ?_ | refine bel_drewN ?_ _ | refine bel_alloc ?_ _ | refine bel_set ?_ (by first | (dsimp only; omega) | (simp; done) | (simp; omega)) _ | refine bel_trans ?_ (by assumption)))⟩
      case round =>
        obtain ⟨wp, rfl⟩ : ∃ wp, wp = wr := ⟨_, rfl⟩
        obtain ⟨k2, hk2, rfl, hb⟩ := hrel
        have HBP := Lib.hid hb
        have HBP2 := Lib.hid (bel_trans' HBO.out hb HBO.out.size)
        have hk0 : (0 : Int) ≤ (k2 : Int) := by omega
        clear hb
        by_cases hlk : k2 < ln
        · have hlkI : (k2 : Int) < (ln : Int) := by omega
          obtain ⟨z, hz⟩ : ∃ z, L[k2]? = some z := ⟨_, List.getElem?_eq_getElem (by rw [HLN.out]; exact hlk)⟩
          have HZ := Lib.hid hz
          have hzL : z ∈ preW N S.up (r : Int) := by rw [HL.out]; exact List.mem_of_getElem? hz
          have HZL := Lib.hid hzL
          have HZN := Lib.hid (HRI.out.inN z hzL)
          have HZS := Lib.hid (HRI.out.size z hzL)
          obtain ⟨-, b4, o4, e4, hb4, xz⟩ := ints_at (HI5.out.keep HBP.out) hz
          have e4a : b4 = bL ∧ o4 = oL := by cases e4; exact ⟨rfl, rfl⟩
          obtain ⟨rfl, rfl⟩ := e4a
          obtain ⟨Ks, hKs⟩ : ∃ Ks, childW N S.up z = Ks := ⟨_, rfl⟩
          obtain ⟨kn, hkn⟩ : ∃ kn, Ks.length = kn := ⟨_, rfl⟩
          have HKS := Lib.hid hKs
          have HKL := Lib.hid hkn
          have KC : Hid (Calls Try.prog 51 #[.pointer (some ⟨Fb, 0, none⟩), .int .i64 (z : Int)] wp (GivesInts wp (ints Ks))) := Lib.hid (by rw [← hKs]; exact overf_kids HO.out rel.out (FO8.out.keep HBP2.out) HZN.out)
          have hwz : wtW N S.up Ks + 1 ≤ 4096 := by have h1 := HZS.out; have h2 := preW_len HO.out (z : Int); rw [hKs] at h1; have := HKN.out; have := HK0.out; omega
          clear hz hzL e4 hKs hkn
          go_wp2_with fail
          refine KC.out.mono ?_
          rintro e w12 ⟨AK, n12, cK, rfl, iK, hb12⟩
          have e12 : n12 = kn := by have := iK.1.1; rw [ints_len, HKL.out] at this; exact this.symm
          subst e12
          have IK := Lib.hid iK.1
          have HB12 := Lib.hid hb12
          have xz2 := Lib.hid ((hb12.cell (p := ⟨b4, o4 + k2, none⟩) hb4).trans xz)
          have lt12 : b4 < w12.heap.size := Nat.lt_of_lt_of_le hb4 hb12.size
          clear iK hb12 xz KC
          go_wp2_with fail
          go_loopw [12, 13] (fun sv jv wr => SumJ w12 N S.up Ks sv jv wr) (fun _ jv _ => n12 - (intOf jv).toNat)
          case atStart => exact ⟨0, Nat.zero_le _, rfl, rfl, (by repeat (first | exact Below.refl _ _ | assumption | refine bel_drew ?_ | refine bel_drewN ?_ _ | refine bel_alloc ?_ _ | refine bel_set ?_ (by first | (dsimp only; omega) | (simp; done) | (simp; omega)) _ | refine bel_trans ?_ (by assumption)))⟩
          case round =>
            obtain ⟨j2, hj2, rfl, rfl, hb⟩ := hrel
            have HBJ := Lib.hid hb
            have HBJ2 := Lib.hid (bel_trans' HBP2.out (bel_trans' HB12.out hb HB12.out.size) HBP2.out.size)
            rw [HKL.out] at hj2
            have hj0 : (0 : Int) ≤ (j2 : Int) := by omega
            have szj := hb.size
            clear hb
            by_cases hlj : j2 < n12
            · have hljI : (j2 : Int) < (n12 : Int) := by omega
              obtain ⟨y, hy⟩ : ∃ y, Ks[j2]? = some y := ⟨_, List.getElem?_eq_getElem (by rw [HKL.out]; exact hlj)⟩
              have hyN : y ∈ N := ((HO.out.is.kp z y).1 (by rw [HKS.out]; exact List.mem_of_getElem? hy)).1
              obtain ⟨-, b6, o6, rfl, hb6, xy⟩ := ints_at (IK.out.keep HBJ.out) hy
              have HT := Lib.hid (wtW_take (up := S.up) hy hyN)
              have hle := wtW_le (N := N) (up := S.up) Ks (j2 + 1)
              have KS2 := Lib.hid (walk_Size (y : Int) HO.out rel.out (FO8.out.keep HBJ2.out))
              obtain ⟨s2, hs2⟩ : ∃ s, wtW N S.up (Ks.take j2) = s := ⟨_, rfl⟩
              obtain ⟨s3, hs3⟩ : ∃ s, (preW N S.up (y : Int)).length = s := ⟨_, rfl⟩
              rw [hs2, hs3] at HT
              rw [hs3] at KS2
              have hw3 : IntKind.i64.wrap ((s2 : Int) + 1 + (s3 : Int)) = ((s2 + s3 + 1 : Nat) : Int) := by rw [IntKind.wrap_i64]; have := HT.out; omega
              have HREL : Hid (∀ W, Below wr.heap.size wr W → SumJ w12 N S.up Ks (.int .i64 ((s2 + s3 + 1 : Nat) : Int)) (.int .i64 ((j2 + 1 : Nat) : Int)) W) := Lib.hid (fun W hW => ⟨j2 + 1, by rw [HKL.out]; omega, rfl, by rw [HT.out], bel_trans' HBJ.out hW HBJ.out.size⟩)
              have wj : IntKind.i64.wrap ((j2 : Int) + 1) = ((j2 + 1 : Nat) : Int) := by rw [IntKind.wrap_i64]; have := IK.out.2.1; omega
              rw [hs2]
              clear hy hs2 hs3 hle hyN
              go_wp2_with fail
              refine KS2.out.mono ?_
              rintro e w13 ⟨rfl, hb13⟩
              have R13 := HREL.out _ hb13
              clear hb13 KS2 xy
              go_wp2_with fail
              go_roundw
              case rel => exact R13
              case measure => simp [intOf]; omega
            · have hjn : j2 = n12 := by omega
              have hljI : ¬ (j2 : Int) < (n12 : Int) := by omega
              have hsv : wtW N S.up (Ks.take j2) + 1 = (preW N S.up (z : Int)).length := by rw [HZS.out, HKS.out, hjn, ← HKL.out, List.take_length]
              rw [hsv]
              obtain ⟨sv, hsvv⟩ : ∃ sv, (preW N S.up (z : Int)).length = sv := ⟨_, rfl⟩
              rw [hsvv]
              have KZ : Hid (∀ W, Below wr.heap.size wr W → Calls Try.prog 76 #[.pointer (some ⟨Fb, 0, none⟩), .int .i64 (z : Int)] W fun e w' => e = .returned (.int .i64 (sv : Nat)) ∧ Below W.heap.size W w') := Lib.hid (fun W hW => by have := walk_Size (z : Int) HO.out rel.out (FO8.out.keep (bel_trans HBJ2.out hW)); rwa [hsvv] at this)
              have KT : Hid (∀ W, Below wr.heap.size wr W → Calls Try.prog 79 #[.pointer (some ⟨Fb, 0, none⟩), .int .i64 (z : Int)] W fun e w' => e = .returned (.int .i64 (r : Int)) ∧ Below W.heap.size W w') := Lib.hid (fun W hW => by have := walk_Top (z : Int) HO.out rel.out (FO8.out.keep (bel_trans HBJ2.out hW)); rwa [HRI.out.top z HZL.out] at this)
              have KI : Hid (∀ W, Below wr.heap.size wr W → Calls Try.prog 81 #[.pointer (some ⟨Fb, 0, none⟩), .int .i64 (z : Int), .int .i64 (r : Int)] W fun e w' => e = .returned (.bool true) ∧ Below W.heap.size W w') := Lib.hid (fun W hW => by have := walk_Within (z : Int) (r : Int) HO.out rel.out (FO8.out.keep (bel_trans HBJ2.out hW)); rwa [decide_eq_true (HRI.out.within z HZL.out)] at this)
              have BPJ : Below wp.heap.size wp wr := bel_trans' HB12.out HBJ.out HB12.out.size
              have BUJ : Below wU.heap.size wU wr := bel_trans' HBP.out BPJ HBP.out.size
              have KH1 : Hid (∀ W, Below wr.heap.size wr W → Calls Try.prog 50 #[.slice (some ⟨bQ, oQ, none⟩) ln c11, .int .i64 (z : Int)] W fun e w' => e = .returned (.bool true) ∧ W = w') := Lib.hid (fun W hW => by
                have := base_Has c11 (z : Int) (I11.out.keep (bel_trans BUJ hW))
                rwa [decide_eq_true (in_ints.2 (by rw [← HQ.out]; exact HRI.out.inQ z HZL.out))] at this)
              obtain ⟨A6, hA6⟩ : ∃ A6, fromA (some ⟨b4, o4, none⟩) c5 0 = A6 := ⟨_, rfl⟩
              have KH2 : Hid (∀ W, Below wr.heap.size wr W → Calls Try.prog 50 #[.slice A6 k2 c5, .int .i64 (z : Int)] W fun e w' => e = .returned (.bool false) ∧ W = w') := Lib.hid (fun W hW => by
                have h1 := (HI5.out.keep (bel_trans BUJ hW)).upto C5.out (Nat.le_of_lt hlk)
                have := base_Has c5 (z : Int) h1
                rw [hA6] at this
                rwa [decide_eq_false] at this
                have e6 : (ints L).take k2 = ints (L.take k2) := by simp [ints, List.map_take]
                rw [e6, in_ints]
                intro hm
                have nd := HRI.out.nd
                rw [HL.out] at nd
                have hz := HZ.out
                obtain ⟨i, hi, e⟩ := List.mem_iff_getElem.1 hm
                rw [List.length_take] at hi
                rw [List.getElem_take] at e
                have hk' : k2 < L.length := by rw [HLN.out]; exact hlk
                rw [List.getElem?_eq_getElem hk'] at hz
                have e1 := List.Nodup.idxOf_getElem nd i (by omega)
                have e2 := List.Nodup.idxOf_getElem nd k2 hk'
                rw [e] at e1
                rw [Option.some.inj hz] at e2
                omega)
              have HSL : Hid (∀ (a : Act) (o : Oper) (W : World), o.op = .slice 27 (.tmp 129) none (some (.tmp 130)) none → a.eval (.tmp 129) = .slice (some ⟨b4, o4, none⟩) ln c5 → a.eval (.tmp 130) = .int .i64 (k2 : Int) → (execOp a.eval o).run Try.prog W = .ok (.value (.slice A6 k2 c5)) W) := Lib.hid (fun a o W h1 h2 h3 => by
                rw [← hA6]
                exact exec_to h1 h2 h3 (by have := C5.out; omega))
              have yr := (hS1.out _ BUJ).1
              have lr : bR < wr.heap.size := (by rcases Nat.lt_or_ge bR wr.heap.size with h | h; exact h; exact absurd yr (by unfold World.cell?; rw [Array.getElem?_eq_none h]; simp))
              have hS : Hid (∀ W : World, Below wr.heap.size wr W → (fun W : World => W.cell? ⟨bR, oR + t, none⟩ = some (.int .i64 (r : Int)) ∧ W.cell? ⟨b4, o4 + k2, none⟩ = some (.int .i64 (z : Int))) W) := Lib.hid (fun W hW => ⟨(hW.cell (p := ⟨bR, oR + t, none⟩) lr).trans yr, (hW.cell (p := ⟨b4, o4 + k2, none⟩) (Nat.lt_of_lt_of_le lt12 szj)).trans ((HBJ.out.cell (p := ⟨b4, o4 + k2, none⟩) lt12).trans xz2.out)⟩)
              have HRK : Hid (∀ W, Below wr.heap.size wr W → SumK wU ln (.int .i64 ((k2 + 1 : Nat) : Int)) W) := Lib.hid (fun W hW => ⟨k2 + 1, by omega, rfl, bel_trans' BUJ hW BUJ.size⟩)
              have wk : IntKind.i64.wrap ((k2 : Int) + 1) = ((k2 + 1 : Nat) : Int) := by rw [IntKind.wrap_i64]; have := I11.out.2.1; omega
              clear hsv hsvv hA6 yr lr BPJ BUJ hjn
              go_upto_region 22 with (fail)
              refine wp_region_held_drew (S := (fun W : World => W.cell? ⟨bR, oR + t, none⟩ = some (.int .i64 (r : Int)) ∧ W.cell? ⟨b4, o4 + k2, none⟩ = some (.int .i64 (z : Int)))) (by kernel_rfl) ?_ (fun hHeld => ?_)
              focus ((try dsimp only); first | exact q | exact hS.out _ (by repeat (first | exact Below.refl _ _ | assumption | refine bel_drew ?_ | refine bel_drewN ?_ _ | refine bel_alloc ?_ _ | refine bel_trans ?_ (by assumption))))
              refine tk_yes 0 (v := ?_) rfl (by kernel_rfl) (by kernel_rfl) (by kernel_rfl) (fun _ _ _ h => h) (by kernel_rfl) (by assumption) ?_ ?_; rotate_left; (focus (intro w hSw; (try dsimp only at hSw); go_simp; (first | done | (with_reducible rfl)))); (try simp only [Act.put, List.setIfInBounds_toArray, List.set_cons_zero, List.set_cons_succ])
              refine tk_yes 1 (v := ?_) rfl (by kernel_rfl) (by kernel_rfl) (by kernel_rfl) (fun _ _ _ h => h) (by kernel_rfl) (by assumption) ?_ ?_; rotate_left; (focus (intro w hSw; (try dsimp only at hSw); go_simp; (first | done | (with_reducible rfl)))); (try simp only [Act.put, List.setIfInBounds_toArray, List.set_cons_zero, List.set_cons_succ])
              refine tk_yes 2 (v := ?_) rfl (by kernel_rfl) (by kernel_rfl) (by kernel_rfl) (fun _ _ _ h => h) (by kernel_rfl) (by assumption) ?_ ?_; rotate_left; (focus (intro w hSw; (try dsimp only at hSw); go_simp; (first | done | (with_reducible rfl)))); (try simp only [Act.put, List.setIfInBounds_toArray, List.set_cons_zero, List.set_cons_succ])
              refine tk_yes 3 (v := ?_) rfl (by kernel_rfl) (by kernel_rfl) (by kernel_rfl) (fun _ _ _ h => h) (by kernel_rfl) (by assumption) ?_ ?_; rotate_left; (focus (intro w hSw; (try dsimp only at hSw); go_simp; (first | done | (with_reducible rfl)))); (try simp only [Act.put, List.setIfInBounds_toArray, List.set_cons_zero, List.set_cons_succ])
              refine tk_yes 4 (v := ?_) rfl (by kernel_rfl) (by kernel_rfl) (by kernel_rfl) (fun _ _ _ h => h) (by kernel_rfl) (by assumption) ?_ ?_; rotate_left; (focus (intro w hSw; (try dsimp only at hSw); go_simp; (first | done | (with_reducible rfl)))); (try simp only [Act.put, List.setIfInBounds_toArray, List.set_cons_zero, List.set_cons_succ])
              refine tk_yes 6 (v := ?_) rfl (by kernel_rfl) (by kernel_rfl) (by kernel_rfl) (fun _ _ _ h => h) (by kernel_rfl) (by assumption) ?_ ?_; rotate_left; (focus (intro w hSw; (try dsimp only at hSw); go_simp; (first | done | (with_reducible rfl)))); (try simp only [Act.put, List.setIfInBounds_toArray, List.set_cons_zero, List.set_cons_succ])
              refine tk_call 5 rfl (by kernel_rfl) (by kernel_rfl) (fun KW hKW => ?_); go_simp; go_at_call 76; refine (KZ.out _ (by repeat (first | exact Below.refl _ _ | assumption | refine bel_drew ?_ | refine bel_drewN ?_ _ | refine bel_alloc ?_ _ | refine bel_trans ?_ (by assumption)))).mono ?_; rintro e u5 ⟨rfl, hb5⟩; have B5 := bel_to (W0 := wr) (by repeat (first | exact Below.refl _ _ | assumption | refine bel_drew ?_ | refine bel_drewN ?_ _ | refine bel_alloc ?_ _ | refine bel_trans ?_ (by assumption))) hb5; have q := hS.out _ B5; clear hb5; refine hKW.out _ _ ?_ (fun hHeld => ?_); (focus ((try dsimp only); first | exact q | exact hS.out _ (by repeat (first | exact Below.refl _ _ | assumption | refine bel_drew ?_ | refine bel_drewN ?_ _ | refine bel_alloc ?_ _ | refine bel_trans ?_ (by assumption))))); clear hKW KW; (try simp only [Act.put, List.setIfInBounds_toArray, List.set_cons_zero, List.set_cons_succ])
              refine tk_yes 7 (v := ?_) rfl (by kernel_rfl) (by kernel_rfl) (by kernel_rfl) (fun _ _ _ h => h) (by kernel_rfl) (by assumption) ?_ ?_; rotate_left; (focus (intro w hSw; (try dsimp only at hSw); go_simp; (first | done | (with_reducible rfl)))); (try simp only [Act.put, List.setIfInBounds_toArray, List.set_cons_zero, List.set_cons_succ])
              refine tk_yes 8 (v := ?_) rfl (by kernel_rfl) (by kernel_rfl) (by kernel_rfl) (fun _ _ _ h => h) (by kernel_rfl) (by assumption) ?_ ?_; rotate_left; (focus (intro w hSw; (try dsimp only at hSw); go_simp; (first | done | (with_reducible rfl)))); (try simp only [Act.put, List.setIfInBounds_toArray, List.set_cons_zero, List.set_cons_succ])
              refine tk_yes 9 (v := ?_) rfl (by kernel_rfl) (by kernel_rfl) (by kernel_rfl) (fun _ _ _ h => h) (by kernel_rfl) (by assumption) ?_ ?_; rotate_left; (focus (intro w hSw; (try dsimp only at hSw); go_simp; (first | done | (with_reducible rfl)))); (try simp only [Act.put, List.setIfInBounds_toArray, List.set_cons_zero, List.set_cons_succ])
              refine tk_yes 10 (v := ?_) rfl (by kernel_rfl) (by kernel_rfl) (by kernel_rfl) (fun _ _ _ h => h) (by kernel_rfl) (by assumption) ?_ ?_; rotate_left; (focus (intro w hSw; (try dsimp only at hSw); go_simp; (first | done | (with_reducible rfl)))); (try simp only [Act.put, List.setIfInBounds_toArray, List.set_cons_zero, List.set_cons_succ])
              refine tk_yes 11 (v := ?_) rfl (by kernel_rfl) (by kernel_rfl) (by kernel_rfl) (fun _ _ _ h => h) (by kernel_rfl) (by assumption) ?_ ?_; rotate_left; (focus (intro w hSw; (try dsimp only at hSw); go_simp; (first | done | (with_reducible rfl)))); (try simp only [Act.put, List.setIfInBounds_toArray, List.set_cons_zero, List.set_cons_succ])
              refine tk_yes 12 (v := ?_) rfl (by kernel_rfl) (by kernel_rfl) (by kernel_rfl) (fun _ _ _ h => h) (by kernel_rfl) (by assumption) ?_ ?_; rotate_left; (focus (intro w hSw; (try dsimp only at hSw); go_simp; (first | done | (with_reducible rfl)))); (try simp only [Act.put, List.setIfInBounds_toArray, List.set_cons_zero, List.set_cons_succ])
              refine tk_yes 13 (v := ?_) rfl (by kernel_rfl) (by kernel_rfl) (by kernel_rfl) (fun _ _ _ h => h) (by kernel_rfl) (by assumption) ?_ ?_; rotate_left; (focus (intro w hSw; (try dsimp only at hSw); go_simp; (first | done | (with_reducible rfl)))); (try simp only [Act.put, List.setIfInBounds_toArray, List.set_cons_zero, List.set_cons_succ])
              refine tk_call 14 rfl (by kernel_rfl) (by kernel_rfl) (fun KW hKW => ?_); go_simp; go_at_call 50; refine (KH1.out _ (by repeat (first | exact Below.refl _ _ | assumption | refine bel_drew ?_ | refine bel_drewN ?_ _ | refine bel_alloc ?_ _ | refine bel_trans ?_ (by assumption)))).mono ?_; rintro e u14 ⟨rfl, rfl⟩; have q := hS.out _ (by repeat (first | exact Below.refl _ _ | assumption | refine bel_drew ?_ | refine bel_drewN ?_ _ | refine bel_alloc ?_ _ | refine bel_trans ?_ (by assumption))); refine hKW.out _ _ ?_ (fun hHeld => ?_); (focus ((try dsimp only); first | exact q | exact hS.out _ (by repeat (first | exact Below.refl _ _ | assumption | refine bel_drew ?_ | refine bel_drewN ?_ _ | refine bel_alloc ?_ _ | refine bel_trans ?_ (by assumption))))); clear hKW KW; (try simp only [Act.put, List.setIfInBounds_toArray, List.set_cons_zero, List.set_cons_succ])
              refine tk_yes 15 (v := ?_) rfl (by kernel_rfl) (by kernel_rfl) (by kernel_rfl) (fun _ _ _ h => h) (by kernel_rfl) (by assumption) ?_ ?_; rotate_left; (focus (intro w hSw; (try dsimp only at hSw); go_simp; (first | done | (with_reducible rfl)))); (try simp only [Act.put, List.setIfInBounds_toArray, List.set_cons_zero, List.set_cons_succ])
              refine tk_yes 16 (v := ?_) rfl (by kernel_rfl) (by kernel_rfl) (by kernel_rfl) (fun _ _ _ h => h) (by kernel_rfl) (by assumption) ?_ ?_; rotate_left; (focus (intro w hSw; (try dsimp only at hSw); go_simp; (first | done | (with_reducible rfl)))); (try simp only [Act.put, List.setIfInBounds_toArray, List.set_cons_zero, List.set_cons_succ])
              refine tk_yes 17 (v := ?_) rfl (by kernel_rfl) (by kernel_rfl) (by kernel_rfl) (fun _ _ _ h => h) (by kernel_rfl) (by assumption) ?_ ?_; rotate_left; (focus (intro w hSw; (try dsimp only at hSw); go_simp; (first | done | (with_reducible rfl)))); (try simp only [Act.put, List.setIfInBounds_toArray, List.set_cons_zero, List.set_cons_succ])
              refine tk_yes 18 (v := ?_) rfl (by kernel_rfl) (by kernel_rfl) (by kernel_rfl) (fun _ _ _ h => h) (by kernel_rfl) (by assumption) ?_ ?_; rotate_left; (focus (intro w hSw; (try dsimp only at hSw); go_simp; (first | done | (with_reducible rfl)))); (try simp only [Act.put, List.setIfInBounds_toArray, List.set_cons_zero, List.set_cons_succ])
              refine tk_yes 19 (v := ?_) rfl (by kernel_rfl) (by kernel_rfl) (by kernel_rfl) (fun _ _ _ h => h) (by kernel_rfl) (by assumption) ?_ ?_; rotate_left; (focus (intro w hSw; (try dsimp only at hSw); go_simp; (first | done | (with_reducible rfl)))); (try simp only [Act.put, List.setIfInBounds_toArray, List.set_cons_zero, List.set_cons_succ])
              refine tk_it 20 (.slice A6 k2 c5) rfl (by kernel_rfl) (by kernel_rfl) (by kernel_rfl) (fun _ _ _ h => h) (by kernel_rfl) (by assumption) (fun w => HSL.out _ _ w rfl rfl rfl) ?_; (try simp only [Act.put, List.setIfInBounds_toArray, List.set_cons_zero, List.set_cons_succ])
              refine tk_yes 21 (v := ?_) rfl (by kernel_rfl) (by kernel_rfl) (by kernel_rfl) (fun _ _ _ h => h) (by kernel_rfl) (by assumption) ?_ ?_; rotate_left; (focus (intro w hSw; (try dsimp only at hSw); go_simp; (first | done | (with_reducible rfl)))); (try simp only [Act.put, List.setIfInBounds_toArray, List.set_cons_zero, List.set_cons_succ])
              refine tk_yes 22 (v := ?_) rfl (by kernel_rfl) (by kernel_rfl) (by kernel_rfl) (fun _ _ _ h => h) (by kernel_rfl) (by assumption) ?_ ?_; rotate_left; (focus (intro w hSw; (try dsimp only at hSw); go_simp; (first | done | (with_reducible rfl)))); (try simp only [Act.put, List.setIfInBounds_toArray, List.set_cons_zero, List.set_cons_succ])
              refine tk_yes 23 (v := ?_) rfl (by kernel_rfl) (by kernel_rfl) (by kernel_rfl) (fun _ _ _ h => h) (by kernel_rfl) (by assumption) ?_ ?_; rotate_left; (focus (intro w hSw; (try dsimp only at hSw); go_simp; (first | done | (with_reducible rfl)))); (try simp only [Act.put, List.setIfInBounds_toArray, List.set_cons_zero, List.set_cons_succ])
              refine tk_yes 24 (v := ?_) rfl (by kernel_rfl) (by kernel_rfl) (by kernel_rfl) (fun _ _ _ h => h) (by kernel_rfl) (by assumption) ?_ ?_; rotate_left; (focus (intro w hSw; (try dsimp only at hSw); go_simp; (first | done | (with_reducible rfl)))); (try simp only [Act.put, List.setIfInBounds_toArray, List.set_cons_zero, List.set_cons_succ])
              refine tk_call 25 rfl (by kernel_rfl) (by kernel_rfl) (fun KW hKW => ?_); go_simp; go_at_call 50; refine (KH2.out _ (by repeat (first | exact Below.refl _ _ | assumption | refine bel_drew ?_ | refine bel_drewN ?_ _ | refine bel_alloc ?_ _ | refine bel_trans ?_ (by assumption)))).mono ?_; rintro e u25 ⟨rfl, rfl⟩; have q := hS.out _ (by repeat (first | exact Below.refl _ _ | assumption | refine bel_drew ?_ | refine bel_drewN ?_ _ | refine bel_alloc ?_ _ | refine bel_trans ?_ (by assumption))); refine hKW.out _ _ ?_ (fun hHeld => ?_); (focus ((try dsimp only); first | exact q | exact hS.out _ (by repeat (first | exact Below.refl _ _ | assumption | refine bel_drew ?_ | refine bel_drewN ?_ _ | refine bel_alloc ?_ _ | refine bel_trans ?_ (by assumption))))); clear hKW KW; (try simp only [Act.put, List.setIfInBounds_toArray, List.set_cons_zero, List.set_cons_succ])
              refine tk_yes 26 (v := ?_) rfl (by kernel_rfl) (by kernel_rfl) (by kernel_rfl) (fun _ _ _ h => h) (by kernel_rfl) (by assumption) ?_ ?_; rotate_left; (focus (intro w hSw; (try dsimp only at hSw); go_simp; (first | done | (with_reducible rfl)))); (try simp only [Act.put, List.setIfInBounds_toArray, List.set_cons_zero, List.set_cons_succ])
              refine tk_yes 27 (v := ?_) rfl (by kernel_rfl) (by kernel_rfl) (by kernel_rfl) (fun _ _ _ h => h) (by kernel_rfl) (by assumption) ?_ ?_; rotate_left; (focus (intro w hSw; (try dsimp only at hSw); go_simp; (first | done | (with_reducible rfl)))); (try simp only [Act.put, List.setIfInBounds_toArray, List.set_cons_zero, List.set_cons_succ])
              refine tk_yes 28 (v := ?_) rfl (by kernel_rfl) (by kernel_rfl) (by kernel_rfl) (fun _ _ _ h => h) (by kernel_rfl) (by assumption) ?_ ?_; rotate_left; (focus (intro w hSw; (try dsimp only at hSw); go_simp; (first | done | (with_reducible rfl)))); (try simp only [Act.put, List.setIfInBounds_toArray, List.set_cons_zero, List.set_cons_succ])
              refine tk_yes 29 (v := ?_) rfl (by kernel_rfl) (by kernel_rfl) (by kernel_rfl) (fun _ _ _ h => h) (by kernel_rfl) (by assumption) ?_ ?_; rotate_left; (focus (intro w hSw; (try dsimp only at hSw); go_simp; (first | done | (with_reducible rfl)))); (try simp only [Act.put, List.setIfInBounds_toArray, List.set_cons_zero, List.set_cons_succ])
              refine tk_yes 30 (v := ?_) rfl (by kernel_rfl) (by kernel_rfl) (by kernel_rfl) (fun _ _ _ h => h) (by kernel_rfl) (by assumption) ?_ ?_; rotate_left; (focus (intro w hSw; (try dsimp only at hSw); go_simp; (first | done | (with_reducible rfl)))); (try simp only [Act.put, List.setIfInBounds_toArray, List.set_cons_zero, List.set_cons_succ])
              refine tk_yes 31 (v := ?_) rfl (by kernel_rfl) (by kernel_rfl) (by kernel_rfl) (fun _ _ _ h => h) (by kernel_rfl) (by assumption) ?_ ?_; rotate_left; (focus (intro w hSw; (try dsimp only at hSw); go_simp; (first | done | (with_reducible rfl)))); (try simp only [Act.put, List.setIfInBounds_toArray, List.set_cons_zero, List.set_cons_succ])
              refine tk_yes 32 (v := ?_) rfl (by kernel_rfl) (by kernel_rfl) (by kernel_rfl) (fun _ _ _ h => h) (by kernel_rfl) (by assumption) ?_ ?_; rotate_left; (focus (intro w hSw; (try dsimp only at hSw); go_simp; (first | done | (with_reducible rfl)))); (try simp only [Act.put, List.setIfInBounds_toArray, List.set_cons_zero, List.set_cons_succ])
              refine tk_yes 34 (v := ?_) rfl (by kernel_rfl) (by kernel_rfl) (by kernel_rfl) (fun _ _ _ h => h) (by kernel_rfl) (by assumption) ?_ ?_; rotate_left; (focus (intro w hSw; (try dsimp only at hSw); go_simp; (first | done | (with_reducible rfl)))); (try simp only [Act.put, List.setIfInBounds_toArray, List.set_cons_zero, List.set_cons_succ])
              refine tk_yes 35 (v := ?_) rfl (by kernel_rfl) (by kernel_rfl) (by kernel_rfl) (fun _ _ _ h => h) (by kernel_rfl) (by assumption) ?_ ?_; rotate_left; (focus (intro w hSw; (try dsimp only at hSw); go_simp; (first | done | (with_reducible rfl)))); (try simp only [Act.put, List.setIfInBounds_toArray, List.set_cons_zero, List.set_cons_succ])
              refine tk_yes 36 (v := ?_) rfl (by kernel_rfl) (by kernel_rfl) (by kernel_rfl) (fun _ _ _ h => h) (by kernel_rfl) (by assumption) ?_ ?_; rotate_left; (focus (intro w hSw; (try dsimp only at hSw); go_simp; (first | done | (with_reducible rfl)))); (try simp only [Act.put, List.setIfInBounds_toArray, List.set_cons_zero, List.set_cons_succ])
              refine tk_yes 37 (v := ?_) rfl (by kernel_rfl) (by kernel_rfl) (by kernel_rfl) (fun _ _ _ h => h) (by kernel_rfl) (by assumption) ?_ ?_; rotate_left; (focus (intro w hSw; (try dsimp only at hSw); go_simp; (first | done | (with_reducible rfl)))); (try simp only [Act.put, List.setIfInBounds_toArray, List.set_cons_zero, List.set_cons_succ])
              refine tk_call 33 rfl (by kernel_rfl) (by kernel_rfl) (fun KW hKW => ?_); go_simp; go_at_call 79; refine (KT.out _ (by repeat (first | exact Below.refl _ _ | assumption | refine bel_drew ?_ | refine bel_drewN ?_ _ | refine bel_alloc ?_ _ | refine bel_trans ?_ (by assumption)))).mono ?_; rintro e u33 ⟨rfl, hb33⟩; have B33 := bel_to (W0 := wr) (by repeat (first | exact Below.refl _ _ | assumption | refine bel_drew ?_ | refine bel_drewN ?_ _ | refine bel_alloc ?_ _ | refine bel_trans ?_ (by assumption))) hb33; have q := hS.out _ B33; clear hb33; refine hKW.out _ _ ?_ (fun hHeld => ?_); (focus ((try dsimp only); first | exact q | exact hS.out _ (by repeat (first | exact Below.refl _ _ | assumption | refine bel_drew ?_ | refine bel_drewN ?_ _ | refine bel_alloc ?_ _ | refine bel_trans ?_ (by assumption))))); clear hKW KW; (try simp only [Act.put, List.setIfInBounds_toArray, List.set_cons_zero, List.set_cons_succ])
              refine tk_yes 38 (v := ?_) rfl (by kernel_rfl) (by kernel_rfl) (by kernel_rfl) (fun _ _ _ h => h) (by kernel_rfl) (by assumption) ?_ ?_; rotate_left; (focus (intro w hSw; (try dsimp only at hSw); go_simp; (first | done | (with_reducible rfl)))); (try simp only [Act.put, List.setIfInBounds_toArray, List.set_cons_zero, List.set_cons_succ])
              refine tk_yes 39 (v := ?_) rfl (by kernel_rfl) (by kernel_rfl) (by kernel_rfl) (fun _ _ _ h => h) (by kernel_rfl) (by assumption) ?_ ?_; rotate_left; (focus (intro w hSw; (try dsimp only at hSw); go_simp; (first | done | (with_reducible rfl)))); (try simp only [Act.put, List.setIfInBounds_toArray, List.set_cons_zero, List.set_cons_succ])
              refine tk_yes 40 (v := ?_) rfl (by kernel_rfl) (by kernel_rfl) (by kernel_rfl) (fun _ _ _ h => h) (by kernel_rfl) (by assumption) ?_ ?_; rotate_left; (focus (intro w hSw; (try dsimp only at hSw); go_simp; (first | done | (with_reducible rfl)))); (try simp only [Act.put, List.setIfInBounds_toArray, List.set_cons_zero, List.set_cons_succ])
              refine tk_yes 41 (v := ?_) rfl (by kernel_rfl) (by kernel_rfl) (by kernel_rfl) (fun _ _ _ h => h) (by kernel_rfl) (by assumption) ?_ ?_; rotate_left; (focus (intro w hSw; (try dsimp only at hSw); go_simp; (first | done | (with_reducible rfl)))); (try simp only [Act.put, List.setIfInBounds_toArray, List.set_cons_zero, List.set_cons_succ])
              refine tk_yes 42 (v := ?_) rfl (by kernel_rfl) (by kernel_rfl) (by kernel_rfl) (fun _ _ _ h => h) (by kernel_rfl) (by assumption) ?_ ?_; rotate_left; (focus (intro w hSw; (try dsimp only at hSw); go_simp; (first | done | (with_reducible rfl)))); (try simp only [Act.put, List.setIfInBounds_toArray, List.set_cons_zero, List.set_cons_succ])
              refine tk_yes 43 (v := ?_) rfl (by kernel_rfl) (by kernel_rfl) (by kernel_rfl) (fun _ _ _ h => h) (by kernel_rfl) (by assumption) ?_ ?_; rotate_left; (focus (intro w hSw; (try dsimp only at hSw); go_simp; (first | done | (with_reducible rfl)))); (try simp only [Act.put, List.setIfInBounds_toArray, List.set_cons_zero, List.set_cons_succ])
              refine tk_yes 44 (v := ?_) rfl (by kernel_rfl) (by kernel_rfl) (by kernel_rfl) (fun _ _ _ h => h) (by kernel_rfl) (by assumption) ?_ ?_; rotate_left; (focus (intro w hSw; (try dsimp only at hSw); go_simp; (first | done | (with_reducible rfl)))); (try simp only [Act.put, List.setIfInBounds_toArray, List.set_cons_zero, List.set_cons_succ])
              refine tk_yes 45 (v := ?_) rfl (by kernel_rfl) (by kernel_rfl) (by kernel_rfl) (fun _ _ _ h => h) (by kernel_rfl) (by assumption) ?_ ?_; rotate_left; (focus (intro w hSw; (try dsimp only at hSw); go_simp; (first | done | (with_reducible rfl)))); (try simp only [Act.put, List.setIfInBounds_toArray, List.set_cons_zero, List.set_cons_succ])
              refine tk_yes 46 (v := ?_) rfl (by kernel_rfl) (by kernel_rfl) (by kernel_rfl) (fun _ _ _ h => h) (by kernel_rfl) (by assumption) ?_ ?_; rotate_left; (focus (intro w hSw; (try dsimp only at hSw); go_simp; (first | done | (with_reducible rfl)))); (try simp only [Act.put, List.setIfInBounds_toArray, List.set_cons_zero, List.set_cons_succ])
              refine tk_yes 47 (v := ?_) rfl (by kernel_rfl) (by kernel_rfl) (by kernel_rfl) (fun _ _ _ h => h) (by kernel_rfl) (by assumption) ?_ ?_; rotate_left; (focus (intro w hSw; (try dsimp only at hSw); go_simp; (first | done | (with_reducible rfl)))); (try simp only [Act.put, List.setIfInBounds_toArray, List.set_cons_zero, List.set_cons_succ])
              refine tk_yes 48 (v := ?_) rfl (by kernel_rfl) (by kernel_rfl) (by kernel_rfl) (fun _ _ _ h => h) (by kernel_rfl) (by assumption) ?_ ?_; rotate_left; (focus (intro w hSw; (try dsimp only at hSw); go_simp; (first | done | (with_reducible rfl)))); (try simp only [Act.put, List.setIfInBounds_toArray, List.set_cons_zero, List.set_cons_succ])
              refine tk_yes 49 (v := ?_) rfl (by kernel_rfl) (by kernel_rfl) (by kernel_rfl) (fun _ _ _ h => h) (by kernel_rfl) (by assumption) ?_ ?_; rotate_left; (focus (intro w hSw; (try dsimp only at hSw); go_simp; (first | done | (with_reducible rfl)))); (try simp only [Act.put, List.setIfInBounds_toArray, List.set_cons_zero, List.set_cons_succ])
              refine tk_call 50 rfl (by kernel_rfl) (by kernel_rfl) (fun KW hKW => ?_); go_simp; go_at_call 81; refine (KI.out _ (by repeat (first | exact Below.refl _ _ | assumption | refine bel_drew ?_ | refine bel_drewN ?_ _ | refine bel_alloc ?_ _ | refine bel_trans ?_ (by assumption)))).mono ?_; rintro e u50 ⟨rfl, hb50⟩; have B50 := bel_to (W0 := wr) (by repeat (first | exact Below.refl _ _ | assumption | refine bel_drew ?_ | refine bel_drewN ?_ _ | refine bel_alloc ?_ _ | refine bel_trans ?_ (by assumption))) hb50; have q := hS.out _ B50; clear hb50; refine hKW.out _ _ ?_ (fun hHeld => ?_); (focus ((try dsimp only); first | exact q | exact hS.out _ (by repeat (first | exact Below.refl _ _ | assumption | refine bel_drew ?_ | refine bel_drewN ?_ _ | refine bel_alloc ?_ _ | refine bel_trans ?_ (by assumption))))); clear hKW KW; (try simp only [Act.put, List.setIfInBounds_toArray, List.set_cons_zero, List.set_cons_succ])
              refine tk_yes 51 (v := ?_) rfl (by kernel_rfl) (by kernel_rfl) (by kernel_rfl) (fun _ _ _ h => h) (by kernel_rfl) (by assumption) ?_ ?_; rotate_left; (focus (intro w hSw; (try dsimp only at hSw); go_simp; (first | done | (with_reducible rfl)))); (try simp only [Act.put, List.setIfInBounds_toArray, List.set_cons_zero, List.set_cons_succ])
              refine tk_yes 52 (v := ?_) rfl (by kernel_rfl) (by kernel_rfl) (by kernel_rfl) (fun _ _ _ h => h) (by kernel_rfl) (by assumption) ?_ ?_; rotate_left; (focus (intro w hSw; (try dsimp only at hSw); go_simp; (first | done | (with_reducible rfl)))); (try simp only [Act.put, List.setIfInBounds_toArray, List.set_cons_zero, List.set_cons_succ])
              refine wpAnyH_done (by kernel_rfl) ?_ _
              go_wp2_with fail
              go_roundw
              case rel => exact HRK.out _ (by first | assumption | exact B50)
              case measure => simp [intOf]; omega
        · have hkn : k2 = ln := by omega
          have hlkI : ¬ (k2 : Int) < (ln : Int) := by omega
          have wt1 : IntKind.i64.wrap ((t : Int) + 1) = ((t + 1 : Nat) : Int) := by rw [IntKind.wrap_i64]; have := IR.out.2.1; omega
          go_wp2_with fail
          go_roundw
          case rel => exact ⟨t + 1, by rw [hnR.out]; omega, rfl, by rw [HW2.out]; rfl, HBP2.out⟩
          case measure => simp [intOf]; omega
    · have htn : t = nR := by omega
      have HE : Hid (wtW N S.up (Rs.take t) = k) := Lib.hid (by rw [htn, ← hnR.out, List.take_length]; exact HRW.out)
      have hlt2 : ¬ (t : Int) < (nR : Int) := by omega
      clear hlt htn
      rw [HE.out]
      have KL := Lib.hid (overf_Len (FO8.out.keep HB.out))
      rw [HOL.out] at KL
      go_wp2_with fail
      refine KL.out.mono ?_
      rintro e w9 ⟨rfl, rfl⟩
      go_wp2_with fail
      refine (walk_Pre_nil 0 _).mono ?_
      rintro e x1 ⟨rfl, b1⟩
      go_wp2_with fail
      refine (walk_Post_nil 0 _).mono ?_
      rintro e x2 ⟨rfl, b2⟩
      go_wp2_with fail
      refine (walk_Size_nil 0 _).mono ?_
      rintro e x3 ⟨rfl, b3⟩
      go_wp2_with fail
      refine (walk_Depth_nil 0 _).mono ?_
      rintro e x4 ⟨rfl, rfl⟩
      go_wp2_with fail
      refine (walk_Top_nil 0 _).mono ?_
      rintro e x5 ⟨rfl, rfl⟩
      go_wp2_with fail
      refine (walk_Within_nil 0 0 _).mono ?_
      rintro e x6 ⟨rfl, b6⟩
      go_wp2_with fail
      refine (law38_works _).mono ?_
      rintro e x7 ⟨rfl, b7⟩
      go_wp2_with fail
      go_ret
      exact ⟨rfl, (bel_trans (bel_trans (bel_trans (bel_trans (bel_trans (bel_trans FO8.out.below HB.out) b1) b2) b3) b6) b7)⟩
end Go.Proofs.Ytdhcmnbajkpjiaa
/-
  Openers for slices whose elements are rows of ints (arrays, structs, nested ones).
-/
namespace Go.Proofs.Ytdhcmnbajkpjiaa.Fr
open Go.ChangeShapes Go.WideShapes Go.ChangeAt Go.RowKit Go.Deep

section
variable {H : Type} {enc : TypeId × Value → H} {P : Program} {w : World}

/-- A type whose cells are S ints. -/
def FlatInt {H : Type} (enc : TypeId × Value → H) (P : Program) (w : World) (sp : Nat → Bool) (e S : Nat) : Prop :=
  ∀ fuel cs x, DataW.trod enc P w 0 sp true fuel e cs = some x → cs.length = S ∧ ∀ j, j < S → ∃ n : Int, cs[j]? = some (Value.int .i64 n) ∧ -9223372036854775808 ≤ n ∧ n ≤ 9223372036854775807

theorem FlatInt.int {sp : Nat → Bool} {e : Nat} (he : P.underlying e = some (.int .i64)) : FlatInt enc P w sp e 1 := by
  intro fuel cs x h
  obtain ⟨n, rfl, _, hw⟩ := DataW.trod_int he h
  refine ⟨rfl, fun j hj => ?_⟩
  obtain rfl : j = 0 := by omega
  exact ⟨n, rfl, bounds_i64 hw⟩

theorem FlatInt.array {sp : Nat → Bool} {e n it S : Nat} (he : P.underlying e = some (.array n it)) (hi : FlatInt enc P w sp it S) (hS : P.cellsOf it = S) (hc : P.cellsOf e = n * S) (h0 : 0 < S) : FlatInt enc P w sp e (n * S) := by
  intro fuel cs x h
  obtain ⟨xs, m, _, _, hlen, hxl, hg⟩ := DataW.trod_array he h
  refine ⟨hlen.trans hc, fun j hj => ?_⟩
  have hq : j / S < n := Nat.div_lt_of_lt_mul (by rw [Nat.mul_comm]; exact hj)
  have h1 := hg (j / S) hq
  have hx : xs[j / S]? = some (xs[j / S]'(by omega)) := List.getElem?_eq_getElem (by omega)
  rw [hx, hS] at h1
  obtain ⟨_, h2⟩ := hi _ _ _ h1
  obtain ⟨v, hv, hb⟩ := h2 (j % S) (Nat.mod_lt _ h0)
  refine ⟨v, ?_, hb⟩
  rw [List.getElem?_take, if_pos (Nat.mod_lt _ h0), List.getElem?_drop] at hv
  rw [← hv]
  congr 1
  have := Nat.div_add_mod j S
  rw [Nat.mul_comm] at this
  omega

theorem FlatInt.struct {sp : Nat → Bool} {e S : Nat} {fs : Array Field} (he : P.underlying e = some (.struct fs)) (hc : P.cellsOf e = S)
    (hf : ∀ j, j < S → ∃ (i : Nat) (f : Field), fs[i]? = some f ∧ f.offset ≤ j ∧ j < f.offset + P.cellsOf f.type ∧ FlatInt enc P w sp f.type (P.cellsOf f.type)) : FlatInt enc P w sp e S := by
  intro fuel cs x h
  obtain ⟨xs, m, _, _, hlen, hxl, hg⟩ := DataW.trod_struct he h
  refine ⟨hlen.trans hc, fun j hj => ?_⟩
  obtain ⟨i, f, hfi, h1, h2, hfl⟩ := hf j hj
  have hil : i < fs.size := (Array.getElem?_eq_some_iff.1 hfi).1
  have h3 := hg i f hfi
  have hx : xs[i]? = some (xs[i]'(by omega)) := List.getElem?_eq_getElem (by omega)
  rw [hx] at h3
  obtain ⟨_, h4⟩ := hfl _ _ _ h3
  obtain ⟨v, hv, hb⟩ := h4 (j - f.offset) (by omega)
  refine ⟨v, ?_, hb⟩
  rw [List.getElem?_take, if_pos (by omega), List.getElem?_drop] at hv
  rw [← hv]
  congr 1
  omega

/-- What the walk is told of a slice of rows of S ints that came in. -/
def IsRows (w : World) (S : Nat) (a : Option Addr) (len cap : Nat) (F : Nat → Nat → Int) : Prop :=
  (a = none ∧ len = 0 ∧ cap = 0) ∨
  ∃ b off, a = some ⟨b, off, none⟩ ∧ (0 < len → b < w.heap.size) ∧ len ≤ cap ∧ cap ≤ maxLen ∧
    ∀ i, i < cap → ∀ j, j < S → w.cell? ⟨b, off + i * S + j, none⟩ = some (.int .i64 (F i j)) ∧ -9223372036854775808 ≤ F i j ∧ F i j ≤ 9223372036854775807

theorem open_rows {t e S : Nat} {a : Option Addr} {len cap : Nat} {d : DataW H} {ps : List MemPlace} {base : Nat} (ht : P.underlying t = some (.slice e)) (hS : P.cellsOf e = S) (h0 : 0 < S)
    (hfl : FlatInt enc P w (fun _ => true) e S)
    (h : DataW.Trod enc P w 0 (fun _ => true) true t (.slice a len cap) d ps) (hv : Value.okWide P w .any base t (.slice a len cap)) : ∃ F, IsRows w S a len cap F := by
  obtain ⟨fuel, hf⟩ := h
  rcases open_slice ht hf with ⟨hcs, _⟩ | ⟨x, l, c, m, n, D, Pl, hcs, hb, hl, hm, hmm, hx, hi⟩
  · simp [Value.cells] at hcs
    obtain ⟨rfl, rfl, rfl⟩ := hcs
    exact ⟨fun _ _ => 0, .inl ⟨rfl, rfl, rfl⟩⟩
  · simp [Value.cells] at hcs
    obtain ⟨rfl, rfl, rfl⟩ := hcs
    simp only [if_true] at hmm
    subst hmm
    have hsp : x.spot = none := by
      unfold Value.okWide at hv
      rw [ht] at hv
      simp only at hv
      unfold Cell.okWide at hv
      rw [ht] at hv
      simp only at hv
      unfold Cell.ok at hv
      rw [ht] at hv
      simp only at hv
      exact hv.2.2.2.1
    obtain ⟨b, off, spot⟩ := x
    simp only at hsp
    subst hsp
    have key : ∀ i j, i < m → j < S → ∃ v : Int, w.cell? ⟨b, off + i * S + j, none⟩ = some (.int .i64 v) ∧ -9223372036854775808 ≤ v ∧ v ≤ 9223372036854775807 := by
      intro i j him hjS
      obtain ⟨cs', hc, ht'⟩ := hi i him
      rw [hS] at hc
      obtain ⟨hlen, hfj⟩ := hfl _ _ _ ht'
      obtain ⟨v, hv', hb'⟩ := hfj j hjS
      obtain ⟨_, _, hat⟩ := World.cells?_some hc
      have hcell := hat j hjS
      refine ⟨v, ?_, hb'⟩
      rw [← hv', ← hcell]
      congr 1
      simp only [Addr.add]
      split <;> split <;> simp_all [Nat.add_assoc]
    refine ⟨fun i j => match w.cell? ⟨b, off + i * S + j, none⟩ with | some (.int _ n) => n | _ => 0, .inr ⟨b, off, rfl, fun hl0 => ?_, hl, hm, fun i him j hjS => ?_⟩⟩
    · obtain ⟨v, hv', _⟩ := key 0 0 (by omega) h0
      exact World.block_lt_of_cell? _ _ hv'
    · obtain ⟨v, hv', hb'⟩ := key i j him hjS
      simp only [hv']
      exact ⟨trivial, hb'⟩
end
end Go.Proofs.Ytdhcmnbajkpjiaa.Fr
/-
  An opener for a slice of bytes.
-/
namespace Go.Proofs.Ytdhcmnbajkpjiaa.Fr
open Go.ChangeShapes Go.WideShapes Go.ChangeAt Go.RowKit Go.Deep

section
variable {H : Type} {enc : TypeId × Value → H} {P : Program} {w : World}
theorem open_bytes {t e : Nat} {a : Option Addr} {len cap : Nat} {d : DataW H} {ps : List MemPlace} {base : Nat} (ht : P.underlying t = some (.slice e)) (he : P.underlying e = some (.int .u8)) (hS : P.cellsOf e = 1)
    (h : DataW.Trod enc P w 0 (fun _ => true) true t (.slice a len cap) d ps) (hv : Value.okWide P w .any base t (.slice a len cap)) : ∃ xs, BytesAt w a len xs := by
  obtain ⟨fuel, hf⟩ := h
  rcases open_slice ht hf with ⟨hcs, _⟩ | ⟨x, l, c, m, n, D, Pl, hcs, hb, hl, hm, hmm, hx, hi⟩
  · simp [Value.cells] at hcs
    obtain ⟨rfl, rfl, rfl⟩ := hcs
    exact ⟨[], rfl, by omega, by simp, fun h => absurd h (by omega)⟩
  · simp [Value.cells] at hcs
    obtain ⟨rfl, rfl, rfl⟩ := hcs
    simp only [if_true] at hmm
    subst hmm
    have hsp : x.spot = none := by
      unfold Value.okWide at hv
      rw [ht] at hv
      simp only at hv
      unfold Cell.okWide at hv
      rw [ht] at hv
      simp only at hv
      unfold Cell.ok at hv
      rw [ht] at hv
      simp only at hv
      exact hv.2.2.2.1
    obtain ⟨b, off, spot⟩ := x
    simp only at hsp
    subst hsp
    have key : ∀ i, i < m → ∃ v : Int, w.cell? ⟨b, off + i, none⟩ = some (.int .u8 v) ∧ 0 ≤ v ∧ v < 256 := by
      intro i him
      obtain ⟨cs', hc, ht'⟩ := hi i him
      rw [hS] at hc
      obtain ⟨n, rfl, _, hw⟩ := DataW.trod_int he ht'
      obtain ⟨_, _, hat⟩ := World.cells?_some hc
      have hcell := hat 0 (by omega)
      refine ⟨n, ?_, ?_⟩
      · have e : w.cell? ⟨b, off + i, none⟩ = [Value.int .u8 n][0]? := by
          rw [← hcell]
          congr 1
          simp only [Addr.add]
          split <;> simp_all
        rw [e]; rfl
      · have := bounds_u8 hw
        omega
    refine ⟨(List.range len).map (fun i => match w.cell? ⟨b, off + i, none⟩ with | some (.int _ n) => n | _ => 0), by simp, by unfold maxLen at hm; omega, ?_, fun hn => ⟨b, off, rfl, ?_, ?_⟩⟩
    · intro y hy
      obtain ⟨i, hi1, rfl⟩ := List.mem_map.1 hy
      obtain ⟨v, hv', hb'⟩ := key i (by have := List.mem_range.1 hi1; omega)
      simp only [hv']
      exact hb'
    · obtain ⟨v, hv', _⟩ := key 0 (by omega)
      exact World.block_lt_of_cell? _ _ hv'
    · intro i hil
      obtain ⟨v, hv', hb'⟩ := key i (by omega)
      simp [List.getD, hil, hv']
end
end Go.Proofs.Ytdhcmnbajkpjiaa.Fr
