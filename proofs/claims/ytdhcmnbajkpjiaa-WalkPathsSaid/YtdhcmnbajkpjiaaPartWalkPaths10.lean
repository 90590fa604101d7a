/- Part 10 of the proof of WalkPaths: lemmas, each with its conditions ahead of it. -/
import Derived.Test.YtdhcmnbajkpjiaaPartWalkPaths9
import Derived.Test.YtdhcmnbajkpjiaaPartWalkPaths8
import Derived.Lib.SliceRun
/-
  The plain law of WalkSums: what both orders, the roots and the sizes are.
-/
namespace Go.Proofs.Ytdhcmnbajkpjiaa
open Go.RowKit
open Go.Maps
set_option linter.unusedVariables false
set_option linter.unusedSimpArgs false
variable {n : Nat} {S : FSt} {N : List Nat} {up : List Int}
/-- How many nodes the trees of some nodes have. -/
def wtW (N : List Nat) (up : List Int) (l : List Nat) : Nat := PW.wt (childW N up) (rkW N) l
theorem wtW_nil : wtW N up [] = 0 := rfl
theorem wtW_app (l m : List Nat) : wtW N up (l ++ m) = wtW N up l + wtW N up m := by unfold wtW PW.wt; rw [List.flatMap_append, List.length_append]
theorem wtW_one {x : Nat} (hx : x ∈ N) : wtW N up [x] = (preW N up (x : Int)).length := by
  rw [preW_yes ⟨by omega, by simpa using hx⟩]
  unfold wtW PW.wt
  simp
theorem wtW_take {l : List Nat} {k x : Nat} (hk : l[k]? = some x) (hx : x ∈ N) : wtW N up (l.take (k + 1)) = wtW N up (l.take k) + (preW N up (x : Int)).length := by
  rw [List.take_add_one, hk, Option.toList_some, wtW_app, wtW_one hx]
theorem wtW_le (l : List Nat) (k : Nat) : wtW N up (l.take k) ≤ wtW N up l := by
  have := wtW_app (N := N) (up := up) (l.take k) (l.drop k)
  rw [List.take_append_drop] at this
  omega
theorem par_none (hO : Ord N up) {x : Nat} (hx : x ∈ N) : up.getD x 0 = -1 ↔ parW up x = none := by
  unfold parW
  constructor
  · intro h; rw [if_neg (by omega)]
  · intro h
    rcases hO.pa x hx with h1 | ⟨p, _, h1⟩
    · exact h1
    · rw [if_pos (by omega)] at h; cases h
theorem root_iff (hO : Ord N up) (x : Nat) : x ∈ childN N up (-1) ↔ x ∈ N ∧ parW up x = none := by
  unfold childN
  rw [List.mem_filter, decide_eq_true_eq]
  constructor
  · rintro ⟨h1, h2⟩; exact ⟨h1, (par_none hO h1).1 h2⟩
  · rintro ⟨h1, h2⟩; exact ⟨h1, (par_none hO h1).2 h2⟩
theorem roots_sum (hO : Ord N up) : wtW N up (childN N up (-1)) = N.length :=
  PW.roots_all hO.is hO.nd (hO.nd.filter _) (root_iff hO)
/-- What a root's both orders are. -/
structure RootIs (N : List Nat) (up : List Int) (r : Nat) : Prop where
  len : (postW N up (r : Int)).length = (preW N up (r : Int)).length
  pos : 0 < (preW N up (r : Int)).length
  le : (preW N up (r : Int)).length ≤ N.length
  first : (preW N up (r : Int))[0]? = some r
  last : (postW N up (r : Int))[(preW N up (r : Int)).length - 1]? = some r
  inN : ∀ z, z ∈ preW N up (r : Int) → z ∈ N
  inQ : ∀ z, z ∈ preW N up (r : Int) → z ∈ postW N up (r : Int)
  nd : (preW N up (r : Int)).Nodup
  top : ∀ z, z ∈ preW N up (r : Int) → topV N up (z : Int) = (r : Int)
  within : ∀ z, z ∈ preW N up (r : Int) → (r : Int) ∈ ints (upsV N up (z : Int))
  size : ∀ z, z ∈ preW N up (r : Int) → (preW N up (z : Int)).length = wtW N up (childW N up z) + 1
theorem is_node {z : Nat} (hz : z ∈ N) : (0 : Int) ≤ (z : Int) ∧ ((z : Nat) : Int).toNat ∈ N := ⟨by omega, by simpa using hz⟩
theorem root_is (hO : Ord N up) {r : Nat} (hr : r ∈ childN N up (-1)) : RootIs N up r := by
  have h1 := (root_iff hO r).1 hr
  have hn := is_node h1.1
  have e1 : preW N up (r : Int) = PW.pre (childW N up) (rkW N) r := by rw [preW_yes hn]; simp
  have e2 : postW N up (r : Int) = PW.post (childW N up) (rkW N) r := by rw [postW_yes hn]; simp
  have f1 := PW.pre_eq hO.is.hk r
  have f2 := PW.post_eq hO.is.hk r
  have hin : ∀ z, z ∈ preW N up (r : Int) → z ∈ N := fun z hz => by rw [e1] at hz; exact PW.pre_in hO.is r h1.1 z hz
  refine ⟨postW_len hO _, by rw [e1, f1]; simp, preW_len hO _, by rw [e1, f1]; rfl, ?_, hin, fun z hz => ?_, by rw [e1]; exact PW.pre_nodup hO.is r, fun z hz => ?_, fun z hz => ?_, fun z hz => ?_⟩
  · rw [← postW_len hO, e2, f2, List.length_append, List.length_singleton, Nat.add_sub_cancel, List.getElem?_append_right (Nat.le_refl _), Nat.sub_self]
    rfl
  · rw [e2]; rw [e1] at hz; exact (PW.mem_post hO.is.hk r z).2 hz
  · have hz2 := hin z hz
    rw [e1] at hz
    have := PW.top_in hO.is h1.1 h1.2 hz
    unfold topV lastV upsV
    rw [if_pos (is_node hz2)]
    simp only [Int.toNat_natCast]
    rw [this]
  · have hz2 := hin z hz
    rw [e1] at hz
    have := (PW.within hO.is hz2 h1.1).1 hz
    unfold upsV
    rw [if_pos (is_node hz2), in_ints]
    simpa using this
  · have hz2 := hin z hz
    rw [preW_yes (is_node hz2)]
    simp only [Int.toNat_natCast]
    exact PW.size_kids hO.is z
theorem IntsAt.upto {w : World} {A : Option Addr} {m c : Nat} {xs : List Int} (h : IntsAt w A m xs) (hc : m ≤ c) {k : Nat} (hk : k ≤ m) : IntsAt w (fromA A c 0) k (xs.take k) := by
  refine ⟨by rw [List.length_take, h.1]; omega, by have := h.2.1; omega, fun h0 => ?_⟩
  obtain ⟨b, off, rfl, hb, hx⟩ := h.2.2 (by omega)
  refine ⟨b, off, ?_, hb, fun i hi => ?_⟩
  · unfold fromA
    rw [if_neg (by omega)]
    show some ((⟨b, off, none⟩ : Addr).add (0 * 1)) = _
    rw [addr_addS]; rfl
  · rw [hx i (by omega)]
    simp [List.getD, List.getElem?_take, hi]
end Go.Proofs.Ytdhcmnbajkpjiaa
/-
  The walk of WalkSums.
-/
namespace Go.Proofs.Ytdhcmnbajkpjiaa
open Go.RowKit
open Go.Maps
set_option linter.unusedVariables false
set_option linter.unusedSimpArgs false
attribute [local go_sem] drewN_alloc drewN_setCell

variable {w0 w w' : World} {own : Nat → Prop} {Fb n : Nat} {S : FSt} {N : List Nat} {up : List Int}
theorem own_named {B : Nat} {v : Value} {l : List Nat} {k : Nat} (h : OwnI B w v (ints l)) (hk : l.length = k) : ∃ A c, v = .slice A k c ∧ IntsAt w A k (ints l) ∧ k ≤ c := by
  obtain ⟨A, c, e, h1, h2, _⟩ := h.ints
  rw [ints_len, hk] at e h1 h2
  exact ⟨A, c, e, h1, h2⟩
set_option maxRecDepth 100000 in
theorem law38_WalkSums_long (A : Option Addr) (m c : Nat) (w : World) (h : (60 : Int) < (m : Int)) :
    Calls Try.prog 13 #[.slice A m c] w fun e w' => e = .returned (.bool true) ∧ Below w.heap.size w w' := by
  go_enter Try.func13, Try.ntmps13
  go_wp2_with fail
  refine (law38_works _).mono ?_
  rintro e w1 ⟨rfl, h1⟩
  go_wp2_with fail
  go_ret
  exact ⟨rfl, h1⟩
def SumO (W0 : World) (N : List Nat) (up : List Int) (Rs : List Nat) (nv i : Value) (wr : World) : Prop :=
  ∃ t : Nat, t ≤ Rs.length ∧ i = .int .i64 (t : Nat) ∧ nv = .int .i64 (wtW N up (Rs.take t) : Nat) ∧ Below W0.heap.size W0 wr
def SumK (W0 : World) (ln : Nat) (i : Value) (wr : World) : Prop := ∃ t : Nat, t ≤ ln ∧ i = .int .i64 (t : Nat) ∧ Below W0.heap.size W0 wr
def SumJ (W0 : World) (N : List Nat) (up : List Int) (Ks : List Nat) (s i : Value) (wr : World) : Prop :=
  ∃ t : Nat, t ≤ Ks.length ∧ i = .int .i64 (t : Nat) ∧ s = .int .i64 ((wtW N up (Ks.take t) + 1 : Nat) : Int) ∧ Below W0.heap.size W0 wr
theorem ints_at {w : World} {A : Option Addr} {m : Nat} {l : List Nat} (h : IntsAt w A m (ints l)) {k x : Nat} (hk : l[k]? = some x) : k < m ∧ ∃ b off, A = some ⟨b, off, none⟩ ∧ b < w.heap.size ∧ w.cell? ⟨b, off + k, none⟩ = some (.int .i64 (x : Int)) := by
  have hl : k < l.length := by
    rcases Nat.lt_or_ge k l.length with h1 | h1
    · exact h1
    · rw [List.getElem?_eq_none h1] at hk; cases hk
  have hm : k < m := by have := h.1; rw [ints_len] at this; omega
  obtain ⟨b, off, rfl, hb, hc⟩ := h.2.2 (by omega)
  refine ⟨hm, b, off, rfl, hb, ?_⟩
  rw [hc k hm]
  have e : (ints l).getD k 0 = (x : Int) := by
    rw [List.getElem?_eq_getElem hl] at hk
    have := Option.some.inj hk
    simp [ints, List.getD, hl, this]
  rw [e]
theorem overf_kids (hO : Ord N S.up) (rel : NRel n S N) (h : ForestOver w0 w own Fb n S) {z : Nat} (hz : z ∈ N) :
    Calls Try.prog 51 #[.pointer (some ⟨Fb, 0, none⟩), .int .i64 (z : Int)] w (GivesInts w (ints (childW N S.up z))) := by
  have e := rel.kids h.fi (z : Int)
  have e2 : PC.place N (z : Int) = (N.idxOf z : Nat) := by unfold PC.place; rw [if_pos (is_node hz)]; simp
  rw [e2, if_pos (by omega)] at e
  have := overf_Children (z : Int) h
  rw [← e] at this
  exact this
set_option maxRecDepth 100000 in
set_option maxHeartbeats 32000000 in
theorem law38_WalkSums (A : Option Addr) (m c : Nat) (xs : List Int) (w : World) (hA : BytesAt w A m xs) :
    Calls Try.prog 13 #[.slice A m c] w fun e w' => e = .returned (.bool true) ∧ Below w.heap.size w w' := by
  by_cases hm : (60 : Int) < (m : Int)
  · exact law38_WalkSums_long A m c w hm
  have hm2 : (m : Int) ≤ 60 := by omega
  have KG := Lib.hid (law38_grown c xs w hA (by omega))
  clear hA hm
  go_enter Try.func13, Try.ntmps13
  go_wp2_with fail
  refine KG.out.mono ?_
  rintro e w1 ⟨Fb, own, V, S, N, rfl, FO1, RI1, hO⟩
  have HO := Lib.hid hO
  obtain ⟨k, hk⟩ : ∃ k, N.length = k := ⟨_, rfl⟩
  obtain ⟨Ao, co, Ag, cg, Ac, mc, cc, f, An, cn, Ap, cp, rfl⟩ := RI1.form hk
  have HKN := Lib.hid hk
  have HK0 : Hid (k ≤ 4096) := Lib.hid (by have := RI1.2.le FO1.fi; omega)
  clear hk hO
  go_upto_region 4 with (fail)
  refine region_name ?_
  rintro W7 hW7
  have b7 : Below w1.heap.size w1 W7 := by rw [hW7]; exact (by repeat (first | exact Below.refl _ _ | assumption | refine bel_drew ?_ | refine bel_drewN ?_ _ | refine bel_alloc ?_ _ | refine bel_set ?_ (by first | (dsimp only; omega) | (simp; done) | (simp; omega)) _ | refine bel_trans ?_ (by assumption)))
  have rel := Lib.hid RI1.2
  have FO7 := Lib.hid (FO1.keep b7)
  have HOL : Hid (S.O.length = k) := Lib.hid ((RI1.2.len FO1.fi).symm.trans HKN.out)
  clear hW7 b7 FO1 RI1
  obtain ⟨Rs, hRs⟩ : ∃ Rs, S.R 30 = Rs := ⟨_, rfl⟩
  have KR := Lib.hid (overf_Roots FO7.out)
  rw [hRs] at KR
  have HRN : Hid (Rs = childN N S.up (-1)) := Lib.hid (hRs ▸ rel.out.root)
  have HRW : Hid (wtW N S.up Rs = k) := Lib.hid (by rw [HRN.out, roots_sum HO.out, HKN.out])
  clear hRs
  go_wp2_with fail
  refine KR.out.mono ?_
  rintro e w8 ⟨AR, nR, cR, rfl, iR, hbR⟩
  have IR := Lib.hid iR.1
  have FO8 := Lib.hid (FO7.out.keep hbR)
  have hnR : Hid (Rs.length = nR) := Lib.hid (by have := iR.1.1; rw [ints_len] at this; exact this)
  clear iR hbR KR FO7 KG
  go_wp2_with fail
  go_loopw [6, 7, 8, 9, 10, 11, 12, 13] (fun nv i _ _ _ _ _ _ wr => SumO w8 N S.up Rs nv i wr) (fun _ i _ _ _ _ _ _ _ => nR - (intOf i).toNat)
  case atStart => exact ⟨0, Nat.zero_le _, rfl, rfl, Below.refl _ _⟩
  case round =>
    obtain ⟨wo, rfl⟩ : ∃ wo, wo = wr := ⟨_, rfl⟩
    obtain ⟨t, ht, rfl, rfl, hb⟩ := hrel
    have HB := Lib.hid hb
    rw [hnR.out] at ht
    have hsz := hb.size
    clear hb
    by_cases hlt : t < nR
    · have hltI : (t : Int) < (nR : Int) := by omega
      have ht0 : (0 : Int) ≤ (t : Int) := by omega
      obtain ⟨r, hr⟩ : ∃ r, Rs[t]? = some r := ⟨_, List.getElem?_eq_getElem (by rw [hnR.out]; exact hlt)⟩
      have HR := Lib.hid hr
      have HRI : Hid (RootIs N S.up r) := Lib.hid (root_is HO.out (by rw [← HRN.out]; exact List.mem_of_getElem? hr))
      have hrN : r ∈ N := ((root_iff HO.out r).1 (by rw [← HRN.out]; exact List.mem_of_getElem? hr)).1
      obtain ⟨-, bR, oR, rfl, hbR, xR⟩ := ints_at (IR.out.keep HB.out) hr
      have HW2 := Lib.hid (wtW_take (up := S.up) hr hrN)
      have HWL := Lib.hid (wtW_le (N := N) (up := S.up) Rs (t + 1))
      obtain ⟨L, hL⟩ : ∃ L, preW N S.up (r : Int) = L := ⟨_, rfl⟩
      obtain ⟨Q, hQ⟩ : ∃ Q, postW N S.up (r : Int) = Q := ⟨_, rfl⟩
      obtain ⟨s0, hs0⟩ : ∃ s, wtW N S.up (Rs.take t) = s := ⟨_, rfl⟩
      obtain ⟨ln, hln⟩ : ∃ ln, L.length = ln := ⟨_, rfl⟩
      have HL := Lib.hid hL
      have HQ := Lib.hid hQ
      have HS0 := Lib.hid hs0
      have HLN := Lib.hid hln
      rw [hL, hs0, hln] at HW2
      have HQN : Hid (Q.length = ln) := Lib.hid (by rw [← hQ, ← hln, ← hL]; exact HRI.out.len)
      have hsum : s0 + ln ≤ 4096 := by have := HW2.out; have := HWL.out; have := HRW.out; have := HK0.out; omega
      have hw1 : IntKind.i64.wrap ((s0 : Int) + (ln : Int)) = ((s0 + ln : Nat) : Int) := by rw [IntKind.wrap_i64]; omega
      have KS : Hid (∀ W, Below wo.heap.size wo W → Calls Try.prog 76 #[.pointer (some ⟨Fb, 0, none⟩), .int .i64 (r : Int)] W fun e w' => e = .returned (.int .i64 (ln : Nat)) ∧ Below W.heap.size W w') := Lib.hid (fun W hW => by have := walk_Size (r : Int) HO.out rel.out (FO8.out.keep (bel_trans HB.out hW)); rwa [HL.out, HLN.out] at this)
      have KP : Hid (∀ W, Below wo.heap.size wo W → Calls Try.prog 72 #[.pointer (some ⟨Fb, 0, none⟩), .int .i64 (r : Int)] W (GivesOwnI W (ints L))) := Lib.hid (fun W hW => by have := walk_PreO (r : Int) HO.out rel.out (FO8.out.keep (bel_trans HB.out hW)); rwa [HL.out] at this)
      have KQ : Hid (∀ W, Below wo.heap.size wo W → Calls Try.prog 74 #[.pointer (some ⟨Fb, 0, none⟩), .int .i64 (r : Int)] W (GivesInts W (ints Q))) := Lib.hid (fun W hW => by have := walk_Post (r : Int) HO.out rel.out (FO8.out.keep (bel_trans HB.out hW)); rwa [HQ.out] at this)
      rw [hs0]
      clear hr hL hQ hs0 hln hrN
      go_wp2_with fail
      refine (KS.out _ (Below.refl _ _)).mono ?_
      rintro e w9 ⟨rfl, hb9⟩
      have x9 := (hb9.cell (p := ⟨bR, oR + t, none⟩) hbR).trans xR
      have lt9 : bR < w9.heap.size := Nat.lt_of_lt_of_le hbR hb9.size
      have HB9 := Lib.hid hb9
      clear xR KS hb9
      go_upto_region 10 with (fail)
      have hS : Hid (∀ W : World, Below w9.heap.size w9 W → (fun W : World => W.cell? ⟨bR, oR + t, none⟩ = some (.int .i64 (r : Int))) W) := Lib.hid (fun W hW => (hW.cell (p := ⟨bR, oR + t, none⟩) lt9).trans x9)
      refine wp_region_held_drew (S := (fun W : World => W.cell? ⟨bR, oR + t, none⟩ = some (.int .i64 (r : Int)))) (by kernel_rfl) ?_ (fun hHeld => ?_)
      focus ((try dsimp only); first | exact q | exact hS.out _ (by repeat (first | exact Below.refl _ _ | assumption | refine bel_drew ?_ | refine bel_drewN ?_ _ | refine bel_alloc ?_ _ | refine bel_trans ?_ (by assumption))))
      refine tk_yes 0 (v := ?_) rfl (by kernel_rfl) (by kernel_rfl) (by kernel_rfl) (fun _ _ _ h => h) (by kernel_rfl) (by assumption) ?_ ?_; rotate_left; (focus (intro w hSw; (try dsimp only at hSw); go_simp; (first | done | (with_reducible rfl)))); (try simp only [Act.put, List.setIfInBounds_toArray, List.set_cons_zero, List.set_cons_succ])
      refine tk_yes 1 (v := ?_) rfl (by kernel_rfl) (by kernel_rfl) (by kernel_rfl) (fun _ _ _ h => h) (by kernel_rfl) (by assumption) ?_ ?_; rotate_left; (focus (intro w hSw; (try dsimp only at hSw); go_simp; (first | done | (with_reducible rfl)))); (try simp only [Act.put, List.setIfInBounds_toArray, List.set_cons_zero, List.set_cons_succ])
      refine tk_yes 2 (v := ?_) rfl (by kernel_rfl) (by kernel_rfl) (by kernel_rfl) (fun _ _ _ h => h) (by kernel_rfl) (by assumption) ?_ ?_; rotate_left; (focus (intro w hSw; (try dsimp only at hSw); go_simp; (first | done | (with_reducible rfl)))); (try simp only [Act.put, List.setIfInBounds_toArray, List.set_cons_zero, List.set_cons_succ])
      refine tk_yes 3 (v := ?_) rfl (by kernel_rfl) (by kernel_rfl) (by kernel_rfl) (fun _ _ _ h => h) (by kernel_rfl) (by assumption) ?_ ?_; rotate_left; (focus (intro w hSw; (try dsimp only at hSw); go_simp; (first | done | (with_reducible rfl)))); (try simp only [Act.put, List.setIfInBounds_toArray, List.set_cons_zero, List.set_cons_succ])
      refine tk_yes 4 (v := ?_) rfl (by kernel_rfl) (by kernel_rfl) (by kernel_rfl) (fun _ _ _ h => h) (by kernel_rfl) (by assumption) ?_ ?_; rotate_left; (focus (intro w hSw; (try dsimp only at hSw); go_simp; (first | done | (with_reducible rfl)))); (try simp only [Act.put, List.setIfInBounds_toArray, List.set_cons_zero, List.set_cons_succ])
      refine tk_yes 6 (v := ?_) rfl (by kernel_rfl) (by kernel_rfl) (by kernel_rfl) (fun _ _ _ h => h) (by kernel_rfl) (by assumption) ?_ ?_; rotate_left; (focus (intro w hSw; (try dsimp only at hSw); go_simp; (first | done | (with_reducible rfl)))); (try simp only [Act.put, List.setIfInBounds_toArray, List.set_cons_zero, List.set_cons_succ])
      refine tk_yes 7 (v := ?_) rfl (by kernel_rfl) (by kernel_rfl) (by kernel_rfl) (fun _ _ _ h => h) (by kernel_rfl) (by assumption) ?_ ?_; rotate_left; (focus (intro w hSw; (try dsimp only at hSw); go_simp; (first | done | (with_reducible rfl)))); (try simp only [Act.put, List.setIfInBounds_toArray, List.set_cons_zero, List.set_cons_succ])
      refine tk_yes 8 (v := ?_) rfl (by kernel_rfl) (by kernel_rfl) (by kernel_rfl) (fun _ _ _ h => h) (by kernel_rfl) (by assumption) ?_ ?_; rotate_left; (focus (intro w hSw; (try dsimp only at hSw); go_simp; (first | done | (with_reducible rfl)))); (try simp only [Act.put, List.setIfInBounds_toArray, List.set_cons_zero, List.set_cons_succ])
      refine tk_yes 9 (v := ?_) rfl (by kernel_rfl) (by kernel_rfl) (by kernel_rfl) (fun _ _ _ h => h) (by kernel_rfl) (by assumption) ?_ ?_; rotate_left; (focus (intro w hSw; (try dsimp only at hSw); go_simp; (first | done | (with_reducible rfl)))); (try simp only [Act.put, List.setIfInBounds_toArray, List.set_cons_zero, List.set_cons_succ])
      refine tk_yes 10 (v := ?_) rfl (by kernel_rfl) (by kernel_rfl) (by kernel_rfl) (fun _ _ _ h => h) (by kernel_rfl) (by assumption) ?_ ?_; rotate_left; (focus (intro w hSw; (try dsimp only at hSw); go_simp; (first | done | (with_reducible rfl)))); (try simp only [Act.put, List.setIfInBounds_toArray, List.set_cons_zero, List.set_cons_succ])
      refine tk_call 5 rfl (by kernel_rfl) (by kernel_rfl) (fun KW hKW => ?_); go_simp; go_at_call 72; refine (KP.out _ (bel_trans HB9.out (by repeat (first | exact Below.refl _ _ | assumption | refine bel_drew ?_ | refine bel_drewN ?_ _ | refine bel_alloc ?_ _ | refine bel_trans ?_ (by assumption))))).mono ?_; rintro e u5 ⟨v5, rfl, o5, hb5⟩; obtain ⟨A5, c5, rfl, i5, cc5⟩ := own_named o5 HLN.out; have B5 := bel_to (W0 := w9) (by repeat (first | exact Below.refl _ _ | assumption | refine bel_drew ?_ | refine bel_drewN ?_ _ | refine bel_alloc ?_ _ | refine bel_trans ?_ (by assumption))) hb5; have I5 := Lib.hid i5; have C5 := Lib.hid cc5; have q := hS.out _ B5; clear o5 i5 cc5; refine hKW.out _ _ ?_ (fun hHeld => ?_); (focus ((try dsimp only); first | exact q | exact hS.out _ (by repeat (first | exact Below.refl _ _ | assumption | refine bel_drew ?_ | refine bel_drewN ?_ _ | refine bel_alloc ?_ _ | refine bel_trans ?_ (by assumption))))); clear hKW KW; (try simp only [Act.put, List.setIfInBounds_toArray, List.set_cons_zero, List.set_cons_succ])
      refine tk_call 11 rfl (by kernel_rfl) (by kernel_rfl) (fun KW hKW => ?_); go_simp; go_at_call 74; refine (KQ.out _ (bel_trans HB9.out (by repeat (first | exact Below.refl _ _ | assumption | refine bel_drew ?_ | refine bel_drewN ?_ _ | refine bel_alloc ?_ _ | refine bel_trans ?_ (by assumption))))).mono ?_; rintro e u11 ⟨A11, n11, c11, rfl, i11, hb11⟩; have B11 := bel_to (W0 := w9) (by repeat (first | exact Below.refl _ _ | assumption | refine bel_drew ?_ | refine bel_drewN ?_ _ | refine bel_alloc ?_ _ | refine bel_trans ?_ (by assumption))) hb11; have e11 : ln = n11 := (by have := i11.1.1; rw [ints_len, HQN.out] at this; exact this); subst e11; have I11 := Lib.hid i11.1; have q := hS.out _ B11; clear i11; refine hKW.out _ _ ?_ (fun hHeld => ?_); (focus ((try dsimp only); first | exact q | exact hS.out _ (by repeat (first | exact Below.refl _ _ | assumption | refine bel_drew ?_ | refine bel_drewN ?_ _ | refine bel_alloc ?_ _ | refine bel_trans ?_ (by assumption))))); clear hKW KW; (try simp only [Act.put, List.setIfInBounds_toArray, List.set_cons_zero, List.set_cons_succ])
      refine tk_yes 12 (v := ?_) rfl (by kernel_rfl) (by kernel_rfl) (by kernel_rfl) (fun _ _ _ h => h) (by kernel_rfl) (by assumption) ?_ ?_; rotate_left; (focus (intro w hSw; (try dsimp only at hSw); go_simp; (first | done | (with_reducible rfl)))); (try simp only [Act.put, List.setIfInBounds_toArray, List.set_cons_zero, List.set_cons_succ])
      refine tk_yes 13 (v := ?_) rfl (by kernel_rfl) (by kernel_rfl) (by kernel_rfl) (fun _ _ _ h => h) (by kernel_rfl) (by assumption) ?_ ?_; rotate_left; (focus (intro w hSw; (try dsimp only at hSw); go_simp; (first | done | (with_reducible rfl)))); (try simp only [Act.put, List.setIfInBounds_toArray, List.set_cons_zero, List.set_cons_succ])
      refine wpAnyH_done (by kernel_rfl) ?_ _
      obtain ⟨wU, rfl⟩ : ∃ wU, wU = u11 := ⟨_, rfl⟩
      have hI5 := I5.out.keep hb11
      have hFI : L[0]? = some r := by rw [← HL.out]; exact HRI.out.first
      have hpos : 0 < ln := by rw [← HLN.out, ← HL.out]; exact HRI.out.pos
      obtain ⟨l1, hl1⟩ : ∃ l1, ln - 1 = l1 := ⟨_, rfl⟩
      have hLA : Q[l1]? = some r := by rw [← hl1, ← HLN.out, ← HL.out, ← HQ.out]; exact HRI.out.last
      obtain ⟨-, bL, oL, rfl, hbL, xL⟩ := ints_at hI5 hFI
      obtain ⟨-, bQ, oQ, rfl, hbQ, xQ⟩ := ints_at I11.out hLA
      rw [Nat.add_zero] at xL
      have xr := hS.out _ B11
      have lr : bR < wU.heap.size := Nat.lt_of_lt_of_le lt9 B11.size
      have HI5 := Lib.hid hI5
      have hS1 : Hid (∀ W : World, Below wU.heap.size wU W → (fun W : World => W.cell? ⟨bR, oR + t, none⟩ = some (.int .i64 (r : Int)) ∧ W.cell? ⟨bL, oL, none⟩ = some (.int .i64 (r : Int)) ∧ W.cell? ⟨bQ, oQ + l1, none⟩ = some (.int .i64 (r : Int))) W) := Lib.hid (fun W hW => ⟨(hW.cell (p := ⟨bR, oR + t, none⟩) lr).trans xr, (hW.cell (p := ⟨bL, oL, none⟩) hbL).trans xL, (hW.cell (p := ⟨bQ, oQ + l1, none⟩) hbQ).trans xQ⟩)
      have gl0 : ((ln : Int) == 0) = false := by simp; omega
      have gl1 : (0 : Int) < (ln : Int) := by omega
      have gw1 : IntKind.i64.wrap ((ln : Int) - 1) = (l1 : Int) := by rw [IntKind.wrap_i64]; omega
      have gl2 : (l1 : Int) < (ln : Int) := by omega
      have gl3 : (0 : Int) ≤ (l1 : Int) := by omega
      have HB11 := Lib.hid B11
      have HBO := Lib.hid (bel_trans' HB.out (bel_trans' HB9.out B11 HB9.out.size) HB.out.size)
      clear hI5 hFI hLA xL xQ xr lr hbL hbQ hl1 I5 hb5 hb11 B5 B11 q x9 lt9 hbR hS KP KQ
      go_upto_region 11 with (fail)
      refine wp_region_held_drew (S := (fun W : World => W.cell? ⟨bR, oR + t, none⟩ = some (.int .i64 (r : Int)) ∧ W.cell? ⟨bL, oL, none⟩ = some (.int .i64 (r : Int)) ∧ W.cell? ⟨bQ, oQ + l1, none⟩ = some (.int .i64 (r : Int)))) (by kernel_rfl) ?_ (fun hHeld => ?_)
      focus ((try dsimp only); exact hS1.out _ (by repeat (first | exact Below.refl _ _ | assumption | refine bel_drew ?_ | refine bel_drewN ?_ _ | refine bel_alloc ?_ _ | refine bel_trans ?_ (by assumption))))
      refine tk_yes 0 (v := ?_) rfl (by kernel_rfl) (by kernel_rfl) (by kernel_rfl) (fun _ _ _ h => h) (by kernel_rfl) (by assumption) ?_ ?_; rotate_left; (focus (intro w hSw; (try dsimp only at hSw); go_simp; (first | done | (with_reducible rfl)))); (try simp only [Act.put, List.setIfInBounds_toArray, List.set_cons_zero, List.set_cons_succ])
      refine tk_yes 1 (v := ?_) rfl (by kernel_rfl) (by kernel_rfl) (by kernel_rfl) (fun _ _ _ h => h) (by kernel_rfl) (by assumption) ?_ ?_; rotate_left; (focus (intro w hSw; (try dsimp only at hSw); go_simp; (first | done | (with_reducible rfl)))); (try simp only [Act.put, List.setIfInBounds_toArray, List.set_cons_zero, List.set_cons_succ])
      refine tk_yes 2 (v := ?_) rfl (by kernel_rfl) (by kernel_rfl) (by kernel_rfl) (fun _ _ _ h => h) (by kernel_rfl) (by assumption) ?_ ?_; rotate_left; (focus (intro w hSw; (try dsimp only at hSw); go_simp; (first | done | (with_reducible rfl)))); (try simp only [Act.put, List.setIfInBounds_toArray, List.set_cons_zero, List.set_cons_succ])
      refine tk_yes 3 (v := ?_) rfl (by kernel_rfl) (by kernel_rfl) (by kernel_rfl) (fun _ _ _ h => h) (by kernel_rfl) (by assumption) ?_ ?_; rotate_left; (focus (intro w hSw; (try dsimp only at hSw); go_simp; (first | done | (with_reducible rfl)))); (try simp only [Act.put, List.setIfInBounds_toArray, List.set_cons_zero, List.set_cons_succ])
      refine tk_yes 4 (v := ?_) rfl (by kernel_rfl) (by kernel_rfl) (by kernel_rfl) (fun _ _ _ h => h) (by kernel_rfl) (by assumption) ?_ ?_; rotate_left; (focus (intro w hSw; (try dsimp only at hSw); go_simp; (first | done | (with_reducible rfl)))); (try simp only [Act.put, List.setIfInBounds_toArray, List.set_cons_zero, List.set_cons_succ])
      refine tk_yes 5 (v := ?_) rfl (by kernel_rfl) (by kernel_rfl) (by kernel_rfl) (fun _ _ _ h => h) (by kernel_rfl) (by assumption) ?_ ?_; rotate_left; (focus (intro w hSw; (try dsimp only at hSw); go_simp; (first | done | (with_reducible rfl)))); (try simp only [Act.put, List.setIfInBounds_toArray, List.set_cons_zero, List.set_cons_succ])
      refine tk_yes 6 (v := ?_) rfl (by kernel_rfl) (by kernel_rfl) (by kernel_rfl) (fun _ _ _ h => h) (by kernel_rfl) (by assumption) ?_ ?_; rotate_left; (focus (intro w hSw; (try dsimp only at hSw); go_simp; (first | done | (with_reducible rfl)))); (try simp only [Act.put, List.setIfInBounds_toArray, List.set_cons_zero, List.set_cons_succ])
      refine tk_yes 7 (v := ?_) rfl (by kernel_rfl) (by kernel_rfl) (by kernel_rfl) (fun _ _ _ h => h) (by kernel_rfl) (by assumption) ?_ ?_; rotate_left; (focus (intro w hSw; (try dsimp only at hSw); go_simp; (first | done | (with_reducible rfl)))); (try simp only [Act.put, List.setIfInBounds_toArray, List.set_cons_zero, List.set_cons_succ])
      refine tk_yes 8 (v := ?_) rfl (by kernel_rfl) (by kernel_rfl) (by kernel_rfl) (fun _ _ _ h => h) (by kernel_rfl) (by assumption) ?_ ?_; rotate_left; (focus (intro w hSw; (try dsimp only at hSw); go_simp; (first | done | (with_reducible rfl)))); (try simp only [Act.put, List.setIfInBounds_toArray, List.set_cons_zero, List.set_cons_succ])
      refine tk_yes 9 (v := ?_) rfl (by kernel_rfl) (by kernel_rfl) (by kernel_rfl) (fun _ _ _ h => h) (by kernel_rfl) (by assumption) ?_ ?_; rotate_left; (focus (intro w hSw; (try dsimp only at hSw); go_simp; (first | done | (with_reducible rfl)))); (try simp only [Act.put, List.setIfInBounds_toArray, List.set_cons_zero, List.set_cons_succ])
      refine tk_yes 10 (v := ?_) rfl (by kernel_rfl) (by kernel_rfl) (by kernel_rfl) (fun _ _ _ h => h) (by kernel_rfl) (by assumption) ?_ ?_; rotate_left; (focus (intro w hSw; (try dsimp only at hSw); go_simp; (first | done | (with_reducible rfl)))); (try simp only [Act.put, List.setIfInBounds_toArray, List.set_cons_zero, List.set_cons_succ])
      refine tk_yes 11 (v := ?_) rfl (by kernel_rfl) (by kernel_rfl) (by kernel_rfl) (fun _ _ _ h => h) (by kernel_rfl) (by assumption) ?_ ?_; rotate_left; (focus (intro w hSw; (try dsimp only at hSw); go_simp; (first | done | (with_reducible rfl)))); (try simp only [Act.put, List.setIfInBounds_toArray, List.set_cons_zero, List.set_cons_succ])
      refine tk_yes 12 (v := ?_) rfl (by kernel_rfl) (by kernel_rfl) (by kernel_rfl) (fun _ _ _ h => h) (by kernel_rfl) (by assumption) ?_ ?_; rotate_left; (focus (intro w hSw; (try dsimp only at hSw); go_simp; (first | done | (with_reducible rfl)))); (try simp only [Act.put, List.setIfInBounds_toArray, List.set_cons_zero, List.set_cons_succ])
      refine tk_yes 13 (v := ?_) rfl (by kernel_rfl) (by kernel_rfl) (by kernel_rfl) (fun _ _ _ h => h) (by kernel_rfl) (by assumption) ?_ ?_; rotate_left; (focus (intro w hSw; (try dsimp only at hSw); go_simp; (first | done | (with_reducible rfl)))); (try simp only [Act.put, List.setIfInBounds_toArray, List.set_cons_zero, List.set_cons_succ])
      refine tk_yes 14 (v := ?_) rfl (by kernel_rfl) (by kernel_rfl) (by kernel_rfl) (fun _ _ _ h => h) (by kernel_rfl) (by assumption) ?_ ?_; rotate_left; (focus (intro w hSw; (try dsimp only at hSw); go_simp; (first | done | (with_reducible rfl)))); (try simp only [Act.put, List.setIfInBounds_toArray, List.set_cons_zero, List.set_cons_succ])
      refine tk_yes 15 (v := ?_) rfl (by kernel_rfl) (by kernel_rfl) (by kernel_rfl) (fun _ _ _ h => h) (by kernel_rfl) (by assumption) ?_ ?_; rotate_left; (focus (intro w hSw; (try dsimp only at hSw); go_simp; (first | done | (with_reducible rfl)))); (try simp only [Act.put, List.setIfInBounds_toArray, List.set_cons_zero, List.set_cons_succ])
      refine tk_yes 16 (v := ?_) rfl (by kernel_rfl) (by kernel_rfl) (by kernel_rfl) (fun _ _ _ h => h) (by kernel_rfl) (by assumption) ?_ ?_; rotate_left; (focus (intro w hSw; (try dsimp only at hSw); go_simp; (first | done | (with_reducible rfl)))); (try simp only [Act.put, List.setIfInBounds_toArray, List.set_cons_zero, List.set_cons_succ])
      refine tk_yes 17 (v := ?_) rfl (by kernel_rfl) (by kernel_rfl) (by kernel_rfl) (fun _ _ _ h => h) (by kernel_rfl) (by assumption) ?_ ?_; rotate_left; (focus (intro w hSw; (try dsimp only at hSw); go_simp; (first | done | (with_reducible rfl)))); (try simp only [Act.put, List.setIfInBounds_toArray, List.set_cons_zero, List.set_cons_succ])
      refine tk_yes 18 (v := ?_) rfl (by kernel_rfl) (by kernel_rfl) (by kernel_rfl) (fun _ _ _ h => h) (by kernel_rfl) (by assumption) ?_ ?_; rotate_left; (focus (intro w hSw; (try dsimp only at hSw); go_simp; (first | done | (with_reducible rfl)))); (try simp only [Act.put, List.setIfInBounds_toArray, List.set_cons_zero, List.set_cons_succ])
      refine tk_yes 19 (v := ?_) rfl (by kernel_rfl) (by kernel_rfl) (by kernel_rfl) (fun _ _ _ h => h) (by kernel_rfl) (by assumption) ?_ ?_; rotate_left; (focus (intro w hSw; (try dsimp only at hSw); go_simp; (first | done | (with_reducible rfl)))); (try simp only [Act.put, List.setIfInBounds_toArray, List.set_cons_zero, List.set_cons_succ])
      refine tk_yes 20 (v := ?_) rfl (by kernel_rfl) (by kernel_rfl) (by kernel_rfl) (fun _ _ _ h => h) (by kernel_rfl) (by assumption) ?_ ?_; rotate_left; (focus (intro w hSw; (try dsimp only at hSw); go_simp; (first | done | (with_reducible rfl)))); (try simp only [Act.put, List.setIfInBounds_toArray, List.set_cons_zero, List.set_cons_succ])
      refine tk_yes 21 (v := ?_) rfl (by kernel_rfl) (by kernel_rfl) (by kernel_rfl) (fun _ _ _ h => h) (by kernel_rfl) (by assumption) ?_ ?_; rotate_left; (focus (intro w hSw; (try dsimp only at hSw); go_simp; (first | done | (with_reducible rfl)))); (try simp only [Act.put, List.setIfInBounds_toArray, List.set_cons_zero, List.set_cons_succ])
      refine tk_yes 22 (v := ?_) rfl (by kernel_rfl) (by kernel_rfl) (by kernel_rfl) (fun _ _ _ h => h) (by kernel_rfl) (by assumption) ?_ ?_; rotate_left; (focus (intro w hSw; (try dsimp only at hSw); go_simp; (first | done | (with_reducible rfl)))); (try simp only [Act.put, List.setIfInBounds_toArray, List.set_cons_zero, List.set_cons_succ])
      refine tk_yes 23 (v := ?_) rfl (by kernel_rfl) (by kernel_rfl) (by kernel_rfl) (fun _ _ _ h => h) (by kernel_rfl) (by assumption) ?_ ?_; rotate_left; (focus (intro w hSw; (try dsimp only at hSw); go_simp; (first | done | (with_reducible rfl)))); (try simp only [Act.put, List.setIfInBounds_toArray, List.set_cons_zero, List.set_cons_succ])
      refine tk_yes 24 (v := ?_) rfl (by kernel_rfl) (by kernel_rfl) (by kernel_rfl) (fun _ _ _ h => h) (by kernel_rfl) (by assumption) ?_ ?_; rotate_left; (focus (intro w hSw; (try dsimp only at hSw); go_simp; (first | done | (with_reducible rfl)))); (try simp only [Act.put, List.setIfInBounds_toArray, List.set_cons_zero, List.set_cons_succ])
      refine tk_yes 25 (v := ?_) rfl (by kernel_rfl) (by kernel_rfl) (by kernel_rfl) (fun _ _ _ h => h) (by kernel_rfl) (by assumption) ?_ ?_; rotate_left; (focus (intro w hSw; (try dsimp only at hSw); go_simp; (first | done | (with_reducible rfl)))); (try simp only [Act.put, List.setIfInBounds_toArray, List.set_cons_zero, List.set_cons_succ])
      refine tk_yes 26 (v := ?_) rfl (by kernel_rfl) (by kernel_rfl) (by kernel_rfl) (fun _ _ _ h => h) (by kernel_rfl) (by assumption) ?_ ?_; rotate_left; (focus (intro w hSw; (try dsimp only at hSw); go_simp; (first | done | (with_reducible rfl)))); (try simp only [Act.put, List.setIfInBounds_toArray, List.set_cons_zero, List.set_cons_succ])
      refine tk_yes 27 (v := ?_) rfl (by kernel_rfl) (by kernel_rfl) (by kernel_rfl) (fun _ _ _ h => h) (by kernel_rfl) (by assumption) ?_ ?_; rotate_left; (focus (intro w hSw; (try dsimp only at hSw); go_simp; (first | done | (with_reducible rfl)))); (try simp only [Act.put, List.setIfInBounds_toArray, List.set_cons_zero, List.set_cons_succ])
      refine tk_yes 28 (v := ?_) rfl (by kernel_rfl) (by kernel_rfl) (by kernel_rfl) (fun _ _ _ h => h) (by kernel_rfl) (by assumption) ?_ ?_; rotate_left; (focus (intro w hSw; (try dsimp only at hSw); go_simp; (first | done | (with_reducible rfl)))); (try simp only [Act.put, List.setIfInBounds_toArray, List.set_cons_zero, List.set_cons_succ])
      refine tk_yes 29 (v := ?_) rfl (by kernel_rfl) (by kernel_rfl) (by kernel_rfl) (fun _ _ _ h => h) (by kernel_rfl) (by assumption) ?_ ?_; rotate_left; (focus (intro w hSw; (try dsimp only at hSw); go_simp; (first | done | (with_reducible rfl)))); (try simp only [Act.put, List.setIfInBounds_toArray, List.set_cons_zero, List.set_cons_succ])
      refine tk_yes 30 (v := ?_) rfl (by kernel_rfl) (by kernel_rfl) (by kernel_rfl) (fun _ _ _ h => h) (by kernel_rfl) (by assumption) ?_ ?_; rotate_left; (focus (intro w hSw; (try dsimp only at hSw); go_simp; (first | done | (with_reducible rfl)))); (try simp only [Act.put, List.setIfInBounds_toArray, List.set_cons_zero, List.set_cons_succ])
      refine tk_yes 31 (v := ?_) rfl (by kernel_rfl) (by kernel_rfl) (by kernel_rfl) (fun _ _ _ h => h) (by kernel_rfl) (by assumption) ?_ ?_; rotate_left; (focus (intro w hSw; (try dsimp only at hSw); go_simp; (first | done | (with_reducible rfl)))); (try simp only [Act.put, List.setIfInBounds_toArray, List.set_cons_zero, List.set_cons_succ])
      refine tk_yes 32 (v := ?_) rfl (by kernel_rfl) (by kernel_rfl) (by kernel_rfl) (fun _ _ _ h => h) (by kernel_rfl) (by assumption) ?_ ?_; rotate_left; (focus (intro w hSw; (try dsimp only at hSw); go_simp; (first | done | (with_reducible rfl)))); (try simp only [Act.put, List.setIfInBounds_toArray, List.set_cons_zero, List.set_cons_succ])
      refine wpAnyH_done (by kernel_rfl) ?_ _
      go_wp2_with fail
      go_loopw [10, 11, 12, 13] (fun kv _ _ _ wr => SumK wU ln kv wr) (fun kv _ _ _ _ => ln - (intOf kv).toNat)
      case atStart => exact ⟨0, Nat.zero_le _, rfl, (by repeat (first | exact Below.refl _ _ | assumption | refine bel_drew ?_ | refine bel_drewN ?_ _ | refine bel_alloc ?_ _ | refine bel_set ?_ (by first | (dsimp only; omega) | (simp; done) | (simp; omega)) _ | refine bel_trans ?_ (by assumption)))⟩
      case round =>
        obtain ⟨wp, rfl⟩ : ∃ wp, wp = wr := ⟨_, rfl⟩
        obtain ⟨k2, hk2, rfl, hb⟩ := hrel
        have HBP := Lib.hid hb
        have HBP2 := Lib.hid (bel_trans' HBO.out hb HBO.out.size)
        have hk0 : (0 : Int) ≤ (k2 : Int) := by omega
        clear hb
        by_cases hlk : k2 < ln
        · have hlkI : (k2 : Int) < (ln : Int) := by omega
          obtain ⟨z, hz⟩ : ∃ z, L[k2]? = some z := ⟨_, List.getElem?_eq_getElem (by rw [HLN.out]; exact hlk)⟩
          have HZ := Lib.hid hz
          have hzL : z ∈ preW N S.up (r : Int) := by rw [HL.out]; exact List.mem_of_getElem? hz
          have HZL := Lib.hid hzL
          have HZN := Lib.hid (HRI.out.inN z hzL)
          have HZS := Lib.hid (HRI.out.size z hzL)
          obtain ⟨-, b4, o4, e4, hb4, xz⟩ := ints_at (HI5.out.keep HBP.out) hz
          have e4a : b4 = bL ∧ o4 = oL := by cases e4; exact ⟨rfl, rfl⟩
          obtain ⟨rfl, rfl⟩ := e4a
          obtain ⟨Ks, hKs⟩ : ∃ Ks, childW N S.up z = Ks := ⟨_, rfl⟩
          obtain ⟨kn, hkn⟩ : ∃ kn, Ks.length = kn := ⟨_, rfl⟩
          have HKS := Lib.hid hKs
          have HKL := Lib.hid hkn
          have KC : Hid (Calls Try.prog 51 #[.pointer (some ⟨Fb, 0, none⟩), .int .i64 (z : Int)] wp (GivesInts wp (ints Ks))) := Lib.hid (by rw [← hKs]; exact overf_kids HO.out rel.out (FO8.out.keep HBP2.out) HZN.out)
          have hwz : wtW N S.up Ks + 1 ≤ 4096 := by have h1 := HZS.out; have h2 := preW_len HO.out (z : Int); rw [hKs] at h1; have := HKN.out; have := HK0.out; omega
          clear hz hzL e4 hKs hkn
          go_wp2_with fail
          refine KC.out.mono ?_
          rintro e w12 ⟨AK, n12, cK, rfl, iK, hb12⟩
          have e12 : n12 = kn := by have := iK.1.1; rw [ints_len, HKL.out] at this; exact this.symm
          subst e12
          have IK := Lib.hid iK.1
          have HB12 := Lib.hid hb12
          have xz2 := Lib.hid ((hb12.cell (p := ⟨b4, o4 + k2, none⟩) hb4).trans xz)
          have lt12 : b4 < w12.heap.size := Nat.lt_of_lt_of_le hb4 hb12.size
          clear iK hb12 xz KC
          go_wp2_with fail
          go_loopw [12, 13] (fun sv jv wr => SumJ w12 N S.up Ks sv jv wr) (fun _ jv _ => n12 - (intOf jv).toNat)
          case atStart => exact ⟨0, Nat.zero_le _, rfl, rfl, (by repeat (first | exact Below.refl _ _ | assumption | refine bel_drew ?_ | refine bel_drewN ?_ _ | refine bel_alloc ?_ _ | refine bel_set ?_ (by first | (dsimp only; omega) | (simp; done) | (simp; omega)) _ | refine bel_trans ?_ (by assumption)))⟩
          case round =>
            obtain ⟨j2, hj2, rfl, rfl, hb⟩ := hrel
            have HBJ := Lib.hid hb
            have HBJ2 := Lib.hid (bel_trans' HBP2.out (bel_trans' HB12.out hb HB12.out.size) HBP2.out.size)
            rw [HKL.out] at hj2
            have hj0 : (0 : Int) ≤ (j2 : Int) := by omega
            have szj := hb.size
            clear hb
            by_cases hlj : j2 < n12
            · have hljI : (j2 : Int) < (n12 : Int) := by omega
              obtain ⟨y, hy⟩ : ∃ y, Ks[j2]? = some y := ⟨_, List.getElem?_eq_getElem (by rw [HKL.out]; exact hlj)⟩
              have hyN : y ∈ N := ((HO.out.is.kp z y).1 (by rw [HKS.out]; exact List.mem_of_getElem? hy)).1
              obtain ⟨-, b6, o6, rfl, hb6, xy⟩ := ints_at (IK.out.keep HBJ.out) hy
              have HT := Lib.hid (wtW_take (up := S.up) hy hyN)
              have hle := wtW_le (N := N) (up := S.up) Ks (j2 + 1)
              have KS2 := Lib.hid (walk_Size (y : Int) HO.out rel.out (FO8.out.keep HBJ2.out))
              obtain ⟨s2, hs2⟩ : ∃ s, wtW N S.up (Ks.take j2) = s := ⟨_, rfl⟩
              obtain ⟨s3, hs3⟩ : ∃ s, (preW N S.up (y : Int)).length = s := ⟨_, rfl⟩
              rw [hs2, hs3] at HT
              rw [hs3] at KS2
              have hw3 : IntKind.i64.wrap ((s2 : Int) + 1 + (s3 : Int)) = ((s2 + s3 + 1 : Nat) : Int) := by rw [IntKind.wrap_i64]; have := HT.out; omega
              have HREL : Hid (∀ W, Below wr.heap.size wr W → SumJ w12 N S.up Ks (.int .i64 ((s2 + s3 + 1 : Nat) : Int)) (.int .i64 ((j2 + 1 : Nat) : Int)) W) := Lib.hid (fun W hW => ⟨j2 + 1, by rw [HKL.out]; omega, rfl, by rw [HT.out], bel_trans' HBJ.out hW HBJ.out.size⟩)
              have wj : IntKind.i64.wrap ((j2 : Int) + 1) = ((j2 + 1 : Nat) : Int) := by rw [IntKind.wrap_i64]; have := IK.out.2.1; omega
              rw [hs2]
              clear hy hs2 hs3 hle hyN
              go_wp2_with fail
              refine KS2.out.mono ?_
              rintro e w13 ⟨rfl, hb13⟩
              have R13 := HREL.out _ hb13
              clear hb13 KS2 xy
              go_wp2_with fail
              go_roundw
              case rel => exact R13
              case measure => simp [intOf]; omega
            · have hjn : j2 = n12 := by omega
              have hljI : ¬ (j2 : Int) < (n12 : Int) := by omega
              have hsv : wtW N S.up (Ks.take j2) + 1 = (preW N S.up (z : Int)).length := by rw [HZS.out, HKS.out, hjn, ← HKL.out, List.take_length]
              rw [hsv]
              obtain ⟨sv, hsvv⟩ : ∃ sv, (preW N S.up (z : Int)).length = sv := ⟨_, rfl⟩
              rw [hsvv]
              have KZ : Hid (∀ W, Below wr.heap.size wr W → Calls Try.prog 76 #[.pointer (some ⟨Fb, 0, none⟩), .int .i64 (z : Int)] W fun e w' => e = .returned (.int .i64 (sv : Nat)) ∧ Below W.heap.size W w') := Lib.hid (fun W hW => by have := walk_Size (z : Int) HO.out rel.out (FO8.out.keep (bel_trans HBJ2.out hW)); rwa [hsvv] at this)
              have KT : Hid (∀ W, Below wr.heap.size wr W → Calls Try.prog 79 #[.pointer (some ⟨Fb, 0, none⟩), .int .i64 (z : Int)] W fun e w' => e = .returned (.int .i64 (r : Int)) ∧ Below W.heap.size W w') := Lib.hid (fun W hW => by have := walk_Top (z : Int) HO.out rel.out (FO8.out.keep (bel_trans HBJ2.out hW)); rwa [HRI.out.top z HZL.out] at this)
              have KI : Hid (∀ W, Below wr.heap.size wr W → Calls Try.prog 81 #[.pointer (some ⟨Fb, 0, none⟩), .int .i64 (z : Int), .int .i64 (r : Int)] W fun e w' => e = .returned (.bool true) ∧ Below W.heap.size W w') := Lib.hid (fun W hW => by have := walk_Within (z : Int) (r : Int) HO.out rel.out (FO8.out.keep (bel_trans HBJ2.out hW)); rwa [decide_eq_true (HRI.out.within z HZL.out)] at this)
              have BPJ : Below wp.heap.size wp wr := bel_trans' HB12.out HBJ.out HB12.out.size
              have BUJ : Below wU.heap.size wU wr := bel_trans' HBP.out BPJ HBP.out.size
              have KH1 : Hid (∀ W, Below wr.heap.size wr W → Calls Try.prog 50 #[.slice (some ⟨bQ, oQ, none⟩) ln c11, .int .i64 (z : Int)] W fun e w' => e = .returned (.bool true) ∧ W = w') := Lib.hid (fun W hW => by
                have := base_Has c11 (z : Int) (I11.out.keep (bel_trans BUJ hW))
                rwa [decide_eq_true (in_ints.2 (by rw [← HQ.out]; exact HRI.out.inQ z HZL.out))] at this)
              obtain ⟨A6, hA6⟩ : ∃ A6, fromA (some ⟨b4, o4, none⟩) c5 0 = A6 := ⟨_, rfl⟩
              have KH2 : Hid (∀ W, Below wr.heap.size wr W → Calls Try.prog 50 #[.slice A6 k2 c5, .int .i64 (z : Int)] W fun e w' => e = .returned (.bool false) ∧ W = w') := Lib.hid (fun W hW => by
                have h1 := (HI5.out.keep (bel_trans BUJ hW)).upto C5.out (Nat.le_of_lt hlk)
                have := base_Has c5 (z : Int) h1
                rw [hA6] at this
                rwa [decide_eq_false] at this
                have e6 : (ints L).take k2 = ints (L.take k2) := by simp [ints, List.map_take]
                rw [e6, in_ints]
                intro hm
                have nd := HRI.out.nd
                rw [HL.out] at nd
                have hz := HZ.out
                obtain ⟨i, hi, e⟩ := List.mem_iff_getElem.1 hm
                rw [List.length_take] at hi
                rw [List.getElem_take] at e
                have hk' : k2 < L.length := by rw [HLN.out]; exact hlk
                rw [List.getElem?_eq_getElem hk'] at hz
                have e1 := List.Nodup.idxOf_getElem nd i (by omega)
                have e2 := List.Nodup.idxOf_getElem nd k2 hk'
                rw [e] at e1
                rw [Option.some.inj hz] at e2
                omega)
              have HSL : Hid (∀ (a : Act) (o : Oper) (W : World), o.op = .slice 27 (.tmp 129) none (some (.tmp 130)) none → a.eval (.tmp 129) = .slice (some ⟨b4, o4, none⟩) ln c5 → a.eval (.tmp 130) = .int .i64 (k2 : Int) → (execOp a.eval o).run Try.prog W = .ok (.value (.slice A6 k2 c5)) W) := Lib.hid (fun a o W h1 h2 h3 => by
                rw [← hA6]
                exact exec_to h1 h2 h3 (by have := C5.out; omega))
              have yr := (hS1.out _ BUJ).1
              have lr : bR < wr.heap.size := (by rcases Nat.lt_or_ge bR wr.heap.size with h | h; exact h; exact absurd yr (by unfold World.cell?; rw [Array.getElem?_eq_none h]; simp))
              have hS : Hid (∀ W : World, Below wr.heap.size wr W → (fun W : World => W.cell? ⟨bR, oR + t, none⟩ = some (.int .i64 (r : Int)) ∧ W.cell? ⟨b4, o4 + k2, none⟩ = some (.int .i64 (z : Int))) W) := Lib.hid (fun W hW => ⟨(hW.cell (p := ⟨bR, oR + t, none⟩) lr).trans yr, (hW.cell (p := ⟨b4, o4 + k2, none⟩) (Nat.lt_of_lt_of_le lt12 szj)).trans ((HBJ.out.cell (p := ⟨b4, o4 + k2, none⟩) lt12).trans xz2.out)⟩)
              have HRK : Hid (∀ W, Below wr.heap.size wr W → SumK wU ln (.int .i64 ((k2 + 1 : Nat) : Int)) W) := Lib.hid (fun W hW => ⟨k2 + 1, by omega, rfl, bel_trans' BUJ hW BUJ.size⟩)
              have wk : IntKind.i64.wrap ((k2 : Int) + 1) = ((k2 + 1 : Nat) : Int) := by rw [IntKind.wrap_i64]; have := I11.out.2.1; omega
              clear hsv hsvv hA6 yr lr BPJ BUJ hjn
              go_upto_region 22 with (fail)
              refine wp_region_held_drew (S := (fun W : World => W.cell? ⟨bR, oR + t, none⟩ = some (.int .i64 (r : Int)) ∧ W.cell? ⟨b4, o4 + k2, none⟩ = some (.int .i64 (z : Int)))) (by kernel_rfl) ?_ (fun hHeld => ?_)
              focus ((try dsimp only); first | exact q | exact hS.out _ (by repeat (first | exact Below.refl _ _ | assumption | refine bel_drew ?_ | refine bel_drewN ?_ _ | refine bel_alloc ?_ _ | refine bel_trans ?_ (by assumption))))
              refine tk_yes 0 (v := ?_) rfl (by kernel_rfl) (by kernel_rfl) (by kernel_rfl) (fun _ _ _ h => h) (by kernel_rfl) (by assumption) ?_ ?_; rotate_left; (focus (intro w hSw; (try dsimp only at hSw); go_simp; (first | done | (with_reducible rfl)))); (try simp only [Act.put, List.setIfInBounds_toArray, List.set_cons_zero, List.set_cons_succ])
              refine tk_yes 1 (v := ?_) rfl (by kernel_rfl) (by kernel_rfl) (by kernel_rfl) (fun _ _ _ h => h) (by kernel_rfl) (by assumption) ?_ ?_; rotate_left; (focus (intro w hSw; (try dsimp only at hSw); go_simp; (first | done | (with_reducible rfl)))); (try simp only [Act.put, List.setIfInBounds_toArray, List.set_cons_zero, List.set_cons_succ])
              refine tk_yes 2 (v := ?_) rfl (by kernel_rfl) (by kernel_rfl) (by kernel_rfl) (fun _ _ _ h => h) (by kernel_rfl) (by assumption) ?_ ?_; rotate_left; (focus (intro w hSw; (try dsimp only at hSw); go_simp; (first | done | (with_reducible rfl)))); (try simp only [Act.put, List.setIfInBounds_toArray, List.set_cons_zero, List.set_cons_succ])
              refine tk_yes 3 (v := ?_) rfl (by kernel_rfl) (by kernel_rfl) (by kernel_rfl) (fun _ _ _ h => h) (by kernel_rfl) (by assumption) ?_ ?_; rotate_left; (focus (intro w hSw; (try dsimp only at hSw); go_simp; (first | done | (with_reducible rfl)))); (try simp only [Act.put, List.setIfInBounds_toArray, List.set_cons_zero, List.set_cons_succ])
              refine tk_yes 4 (v := ?_) rfl (by kernel_rfl) (by kernel_rfl) (by kernel_rfl) (fun _ _ _ h => h) (by kernel_rfl) (by assumption) ?_ ?_; rotate_left; (focus (intro w hSw; (try dsimp only at hSw); go_simp; (first | done | (with_reducible rfl)))); (try simp only [Act.put, List.setIfInBounds_toArray, List.set_cons_zero, List.set_cons_succ])
              refine tk_yes 6 (v := ?_) rfl (by kernel_rfl) (by kernel_rfl) (by kernel_rfl) (fun _ _ _ h => h) (by kernel_rfl) (by assumption) ?_ ?_; rotate_left; (focus (intro w hSw; (try dsimp only at hSw); go_simp; (first | done | (with_reducible rfl)))); (try simp only [Act.put, List.setIfInBounds_toArray, List.set_cons_zero, List.set_cons_succ])
              refine tk_call 5 rfl (by kernel_rfl) (by kernel_rfl) (fun KW hKW => ?_); go_simp; go_at_call 76; refine (KZ.out _ (by repeat (first | exact Below.refl _ _ | assumption | refine bel_drew ?_ | refine bel_drewN ?_ _ | refine bel_alloc ?_ _ | refine bel_trans ?_ (by assumption)))).mono ?_; rintro e u5 ⟨rfl, hb5⟩; have B5 := bel_to (W0 := wr) (by repeat (first | exact Below.refl _ _ | assumption | refine bel_drew ?_ | refine bel_drewN ?_ _ | refine bel_alloc ?_ _ | refine bel_trans ?_ (by assumption))) hb5; have q := hS.out _ B5; clear hb5; refine hKW.out _ _ ?_ (fun hHeld => ?_); (focus ((try dsimp only); first | exact q | exact hS.out _ (by repeat (first | exact Below.refl _ _ | assumption | refine bel_drew ?_ | refine bel_drewN ?_ _ | refine bel_alloc ?_ _ | refine bel_trans ?_ (by assumption))))); clear hKW KW; (try simp only [Act.put, List.setIfInBounds_toArray, List.set_cons_zero, List.set_cons_succ])
              refine tk_yes 7 (v := ?_) rfl (by kernel_rfl) (by kernel_rfl) (by kernel_rfl) (fun _ _ _ h => h) (by kernel_rfl) (by assumption) ?_ ?_; rotate_left; (focus (intro w hSw; (try dsimp only at hSw); go_simp; (first | done | (with_reducible rfl)))); (try simp only [Act.put, List.setIfInBounds_toArray, List.set_cons_zero, List.set_cons_succ])
              refine tk_yes 8 (v := ?_) rfl (by kernel_rfl) (by kernel_rfl) (by kernel_rfl) (fun _ _ _ h => h) (by kernel_rfl) (by assumption) ?_ ?_; rotate_left; (focus (intro w hSw; (try dsimp only at hSw); go_simp; (first | done | (with_reducible rfl)))); (try simp only [Act.put, List.setIfInBounds_toArray, List.set_cons_zero, List.set_cons_succ])
              refine tk_yes 9 (v := ?_) rfl (by kernel_rfl) (by kernel_rfl) (by kernel_rfl) (fun _ _ _ h => h) (by kernel_rfl) (by assumption) ?_ ?_; rotate_left; (focus (intro w hSw; (try dsimp only at hSw); go_simp; (first | done | (with_reducible rfl)))); (try simp only [Act.put, List.setIfInBounds_toArray, List.set_cons_zero, List.set_cons_succ])
              refine tk_yes 10 (v := ?_) rfl (by kernel_rfl) (by kernel_rfl) (by kernel_rfl) (fun _ _ _ h => h) (by kernel_rfl) (by assumption) ?_ ?_; rotate_left; (focus (intro w hSw; (try dsimp only at hSw); go_simp; (first | done | (with_reducible rfl)))); (try simp only [Act.put, List.setIfInBounds_toArray, List.set_cons_zero, List.set_cons_succ])
              refine tk_yes 11 (v := ?_) rfl (by kernel_rfl) (by kernel_rfl) (by kernel_rfl) (fun _ _ _ h => h) (by kernel_rfl) (by assumption) ?_ ?_; rotate_left; (focus (intro w hSw; (try dsimp only at hSw); go_simp; (first | done | (with_reducible rfl)))); (try simp only [Act.put, List.setIfInBounds_toArray, List.set_cons_zero, List.set_cons_succ])
              refine tk_yes 12 (v := ?_) rfl (by kernel_rfl) (by kernel_rfl) (by kernel_rfl) (fun _ _ _ h => h) (by kernel_rfl) (by assumption) ?_ ?_; rotate_left; (focus (intro w hSw; (try dsimp only at hSw); go_simp; (first | done | (with_reducible rfl)))); (try simp only [Act.put, List.setIfInBounds_toArray, List.set_cons_zero, List.set_cons_succ])
              refine tk_yes 13 (v := ?_) rfl (by kernel_rfl) (by kernel_rfl) (by kernel_rfl) (fun _ _ _ h => h) (by kernel_rfl) (by assumption) ?_ ?_; rotate_left; (focus (intro w hSw; (try dsimp only at hSw); go_simp; (first | done | (with_reducible rfl)))); (try simp only [Act.put, List.setIfInBounds_toArray, List.set_cons_zero, List.set_cons_succ])
              refine tk_call 14 rfl (by kernel_rfl) (by kernel_rfl) (fun KW hKW => ?_); go_simp; go_at_call 50; refine (KH1.out _ (by repeat (first | exact Below.refl _ _ | assumption | refine bel_drew ?_ | refine bel_drewN ?_ _ | refine bel_alloc ?_ _ | refine bel_trans ?_ (by assumption)))).mono ?_; rintro e u14 ⟨rfl, rfl⟩; have q := hS.out _ (by repeat (first | exact Below.refl _ _ | assumption | refine bel_drew ?_ | refine bel_drewN ?_ _ | refine bel_alloc ?_ _ | refine bel_trans ?_ (by assumption))); refine hKW.out _ _ ?_ (fun hHeld => ?_); (focus ((try dsimp only); first | exact q | exact hS.out _ (by repeat (first | exact Below.refl _ _ | assumption | refine bel_drew ?_ | refine bel_drewN ?_ _ | refine bel_alloc ?_ _ | refine bel_trans ?_ (by assumption))))); clear hKW KW; (try simp only [Act.put, List.setIfInBounds_toArray, List.set_cons_zero, List.set_cons_succ])
              refine tk_yes 15 (v := ?_) rfl (by kernel_rfl) (by kernel_rfl) (by kernel_rfl) (fun _ _ _ h => h) (by kernel_rfl) (by assumption) ?_ ?_; rotate_left; (focus (intro w hSw; (try dsimp only at hSw); go_simp; (first | done | (with_reducible rfl)))); (try simp only [Act.put, List.setIfInBounds_toArray, List.set_cons_zero, List.set_cons_succ])
              refine tk_yes 16 (v := ?_) rfl (by kernel_rfl) (by kernel_rfl) (by kernel_rfl) (fun _ _ _ h => h) (by kernel_rfl) (by assumption) ?_ ?_; rotate_left; (focus (intro w hSw; (try dsimp only at hSw); go_simp; (first | done | (with_reducible rfl)))); (try simp only [Act.put, List.setIfInBounds_toArray, List.set_cons_zero, List.set_cons_succ])
              refine tk_yes 17 (v := ?_) rfl (by kernel_rfl) (by kernel_rfl) (by kernel_rfl) (fun _ _ _ h => h) (by kernel_rfl) (by assumption) ?_ ?_; rotate_left; (focus (intro w hSw; (try dsimp only at hSw); go_simp; (first | done | (with_reducible rfl)))); (try simp only [Act.put, List.setIfInBounds_toArray, List.set_cons_zero, List.set_cons_succ])
              refine tk_yes 18 (v := ?_) rfl (by kernel_rfl) (by kernel_rfl) (by kernel_rfl) (fun _ _ _ h => h) (by kernel_rfl) (by assumption) ?_ ?_; rotate_left; (focus (intro w hSw; (try dsimp only at hSw); go_simp; (first | done | (with_reducible rfl)))); (try simp only [Act.put, List.setIfInBounds_toArray, List.set_cons_zero, List.set_cons_succ])
              refine tk_yes 19 (v := ?_) rfl (by kernel_rfl) (by kernel_rfl) (by kernel_rfl) (fun _ _ _ h => h) (by kernel_rfl) (by assumption) ?_ ?_; rotate_left; (focus (intro w hSw; (try dsimp only at hSw); go_simp; (first | done | (with_reducible rfl)))); (try simp only [Act.put, List.setIfInBounds_toArray, List.set_cons_zero, List.set_cons_succ])
              refine tk_it 20 (.slice A6 k2 c5) rfl (by kernel_rfl) (by kernel_rfl) (by kernel_rfl) (fun _ _ _ h => h) (by kernel_rfl) (by assumption) (fun w => HSL.out _ _ w rfl rfl rfl) ?_; (try simp only [Act.put, List.setIfInBounds_toArray, List.set_cons_zero, List.set_cons_succ])
              refine tk_yes 21 (v := ?_) rfl (by kernel_rfl) (by kernel_rfl) (by kernel_rfl) (fun _ _ _ h => h) (by kernel_rfl) (by assumption) ?_ ?_; rotate_left; (focus (intro w hSw; (try dsimp only at hSw); go_simp; (first | done | (with_reducible rfl)))); (try simp only [Act.put, List.setIfInBounds_toArray, List.set_cons_zero, List.set_cons_succ])
              refine tk_yes 22 (v := ?_) rfl (by kernel_rfl) (by kernel_rfl) (by kernel_rfl) (fun _ _ _ h => h) (by kernel_rfl) (by assumption) ?_ ?_; rotate_left; (focus (intro w hSw; (try dsimp only at hSw); go_simp; (first | done | (with_reducible rfl)))); (try simp only [Act.put, List.setIfInBounds_toArray, List.set_cons_zero, List.set_cons_succ])
              refine tk_yes 23 (v := ?_) rfl (by kernel_rfl) (by kernel_rfl) (by kernel_rfl) (fun _ _ _ h => h) (by kernel_rfl) (by assumption) ?_ ?_; rotate_left; (focus (intro w hSw; (try dsimp only at hSw); go_simp; (first | done | (with_reducible rfl)))); (try simp only [Act.put, List.setIfInBounds_toArray, List.set_cons_zero, List.set_cons_succ])
              refine tk_yes 24 (v := ?_) rfl (by kernel_rfl) (by kernel_rfl) (by kernel_rfl) (fun _ _ _ h => h) (by kernel_rfl) (by assumption) ?_ ?_; rotate_left; (focus (intro w hSw; (try dsimp only at hSw); go_simp; (first | done | (with_reducible rfl)))); (try simp only [Act.put, List.setIfInBounds_toArray, List.set_cons_zero, List.set_cons_succ])
              refine tk_call 25 rfl (by kernel_rfl) (by kernel_rfl) (fun KW hKW => ?_); go_simp; go_at_call 50; refine (KH2.out _ (by repeat (first | exact Below.refl _ _ | assumption | refine bel_drew ?_ | refine bel_drewN ?_ _ | refine bel_alloc ?_ _ | refine bel_trans ?_ (by assumption)))).mono ?_; rintro e u25 ⟨rfl, rfl⟩; have q := hS.out _ (by repeat (first | exact Below.refl _ _ | assumption | refine bel_drew ?_ | refine bel_drewN ?_ _ | refine bel_alloc ?_ _ | refine bel_trans ?_ (by assumption))); refine hKW.out _ _ ?_ (fun hHeld => ?_); (focus ((try dsimp only); first | exact q | exact hS.out _ (by repeat (first | exact Below.refl _ _ | assumption | refine bel_drew ?_ | refine bel_drewN ?_ _ | refine bel_alloc ?_ _ | refine bel_trans ?_ (by assumption))))); clear hKW KW; (try simp only [Act.put, List.setIfInBounds_toArray, List.set_cons_zero, List.set_cons_succ])
              refine tk_yes 26 (v := ?_) rfl (by kernel_rfl) (by kernel_rfl) (by kernel_rfl) (fun _ _ _ h => h) (by kernel_rfl) (by assumption) ?_ ?_; rotate_left; (focus (intro w hSw; (try dsimp only at hSw); go_simp; (first | done | (with_reducible rfl)))); (try simp only [Act.put, List.setIfInBounds_toArray, List.set_cons_zero, List.set_cons_succ])
              refine tk_yes 27 (v := ?_) rfl (by kernel_rfl) (by kernel_rfl) (by kernel_rfl) (fun _ _ _ h => h) (by kernel_rfl) (by assumption) ?_ ?_; rotate_left; (focus (intro w hSw; (try dsimp only at hSw); go_simp; (first | done | (with_reducible rfl)))); (try simp only [Act.put, List.setIfInBounds_toArray, List.set_cons_zero, List.set_cons_succ])
              refine tk_yes 28 (v := ?_) rfl (by kernel_rfl) (by kernel_rfl) (by kernel_rfl) (fun _ _ _ h => h) (by kernel_rfl) (by assumption) ?_ ?_; rotate_left; (focus (intro w hSw; (try dsimp only at hSw); go_simp; (first | done | (with_reducible rfl)))); (try simp only [Act.put, List.setIfInBounds_toArray, List.set_cons_zero, List.set_cons_succ])
              refine tk_yes 29 (v := ?_) rfl (by kernel_rfl) (by kernel_rfl) (by kernel_rfl) (fun _ _ _ h => h) (by kernel_rfl) (by assumption) ?_ ?_; rotate_left; (focus (intro w hSw; (try dsimp only at hSw); go_simp; (first | done | (with_reducible rfl)))); (try simp only [Act.put, List.setIfInBounds_toArray, List.set_cons_zero, List.set_cons_succ])
              refine tk_yes 30 (v := ?_) rfl (by kernel_rfl) (by kernel_rfl) (by kernel_rfl) (fun _ _ _ h => h) (by kernel_rfl) (by assumption) ?_ ?_; rotate_left; (focus (intro w hSw; (try dsimp only at hSw); go_simp; (first | done | (with_reducible rfl)))); (try simp only [Act.put, List.setIfInBounds_toArray, List.set_cons_zero, List.set_cons_succ])
              refine tk_yes 31 (v := ?_) rfl (by kernel_rfl) (by kernel_rfl) (by kernel_rfl) (fun _ _ _ h => h) (by kernel_rfl) (by assumption) ?_ ?_; rotate_left; (focus (intro w hSw; (try dsimp only at hSw); go_simp; (first | done | (with_reducible rfl)))); (try simp only [Act.put, List.setIfInBounds_toArray, List.set_cons_zero, List.set_cons_succ])
              refine tk_yes 32 (v := ?_) rfl (by kernel_rfl) (by kernel_rfl) (by kernel_rfl) (fun _ _ _ h => h) (by kernel_rfl) (by assumption) ?_ ?_; rotate_left; (focus (intro w hSw; (try dsimp only at hSw); go_simp; (first | done | (with_reducible rfl)))); (try simp only [Act.put, List.setIfInBounds_toArray, List.set_cons_zero, List.set_cons_succ])
              refine tk_yes 34 (v := ?_) rfl (by kernel_rfl) (by kernel_rfl) (by kernel_rfl) (fun _ _ _ h => h) (by kernel_rfl) (by assumption) ?_ ?_; rotate_left; (focus (intro w hSw; (try dsimp only at hSw); go_simp; (first | done | (with_reducible rfl)))); (try simp only [Act.put, List.setIfInBounds_toArray, List.set_cons_zero, List.set_cons_succ])
              refine tk_yes 35 (v := ?_) rfl (by kernel_rfl) (by kernel_rfl) (by kernel_rfl) (fun _ _ _ h => h) (by kernel_rfl) (by assumption) ?_ ?_; rotate_left; (focus (intro w hSw; (try dsimp only at hSw); go_simp; (first | done | (with_reducible rfl)))); (try simp only [Act.put, List.setIfInBounds_toArray, List.set_cons_zero, List.set_cons_succ])
              refine tk_yes 36 (v := ?_) rfl (by kernel_rfl) (by kernel_rfl) (by kernel_rfl) (fun _ _ _ h => h) (by kernel_rfl) (by assumption) ?_ ?_; rotate_left; (focus (intro w hSw; (try dsimp only at hSw); go_simp; (first | done | (with_reducible rfl)))); (try simp only [Act.put, List.setIfInBounds_toArray, List.set_cons_zero, List.set_cons_succ])
              refine tk_yes 37 (v := ?_) rfl (by kernel_rfl) (by kernel_rfl) (by kernel_rfl) (fun _ _ _ h => h) (by kernel_rfl) (by assumption) ?_ ?_; rotate_left; (focus (intro w hSw; (try dsimp only at hSw); go_simp; (first | done | (with_reducible rfl)))); (try simp only [Act.put, List.setIfInBounds_toArray, List.set_cons_zero, List.set_cons_succ])
              refine tk_call 33 rfl (by kernel_rfl) (by kernel_rfl) (fun KW hKW => ?_); go_simp; go_at_call 79; refine (KT.out _ (by repeat (first | exact Below.refl _ _ | assumption | refine bel_drew ?_ | refine bel_drewN ?_ _ | refine bel_alloc ?_ _ | refine bel_trans ?_ (by assumption)))).mono ?_; rintro e u33 ⟨rfl, hb33⟩; have B33 := bel_to (W0 := wr) (by repeat (first | exact Below.refl _ _ | assumption | refine bel_drew ?_ | refine bel_drewN ?_ _ | refine bel_alloc ?_ _ | refine bel_trans ?_ (by assumption))) hb33; have q := hS.out _ B33; clear hb33; refine hKW.out _ _ ?_ (fun hHeld => ?_); (focus ((try dsimp only); first | exact q | exact hS.out _ (by repeat (first | exact Below.refl _ _ | assumption | refine bel_drew ?_ | refine bel_drewN ?_ _ | refine bel_alloc ?_ _ | refine bel_trans ?_ (by assumption))))); clear hKW KW; (try simp only [Act.put, List.setIfInBounds_toArray, List.set_cons_zero, List.set_cons_succ])
              refine tk_yes 38 (v := ?_) rfl (by kernel_rfl) (by kernel_rfl) (by kernel_rfl) (fun _ _ _ h => h) (by kernel_rfl) (by assumption) ?_ ?_; rotate_left; (focus (intro w hSw; (try dsimp only at hSw); go_simp; (first | done | (with_reducible rfl)))); (try simp only [Act.put, List.setIfInBounds_toArray, List.set_cons_zero, List.set_cons_succ])
              refine tk_yes 39 (v := ?_) rfl (by kernel_rfl) (by kernel_rfl) (by kernel_rfl) (fun _ _ _ h => h) (by kernel_rfl) (by assumption) ?_ ?_; rotate_left; (focus (intro w hSw; (try dsimp only at hSw); go_simp; (first | done | (with_reducible rfl)))); (try simp only [Act.put, List.setIfInBounds_toArray, List.set_cons_zero, List.set_cons_succ])
              refine tk_yes 40 (v := ?_) rfl (by kernel_rfl) (by kernel_rfl) (by kernel_rfl) (fun _ _ _ h => h) (by kernel_rfl) (by assumption) ?_ ?_; rotate_left; (focus (intro w hSw; (try dsimp only at hSw); go_simp; (first | done | (with_reducible rfl)))); (try simp only [Act.put, List.setIfInBounds_toArray, List.set_cons_zero, List.set_cons_succ])
              refine tk_yes 41 (v := ?_) rfl (by kernel_rfl) (by kernel_rfl) (by kernel_rfl) (fun _ _ _ h => h) (by kernel_rfl) (by assumption) ?_ ?_; rotate_left; (focus (intro w hSw; (try dsimp only at hSw); go_simp; (first | done | (with_reducible rfl)))); (try simp only [Act.put, List.setIfInBounds_toArray, List.set_cons_zero, List.set_cons_succ])
              refine tk_yes 42 (v := ?_) rfl (by kernel_rfl) (by kernel_rfl) (by kernel_rfl) (fun _ _ _ h => h) (by kernel_rfl) (by assumption) ?_ ?_; rotate_left; (focus (intro w hSw; (try dsimp only at hSw); go_simp; (first | done | (with_reducible rfl)))); (try simp only [Act.put, List.setIfInBounds_toArray, List.set_cons_zero, List.set_cons_succ])
              refine tk_yes 43 (v := ?_) rfl (by kernel_rfl) (by kernel_rfl) (by kernel_rfl) (fun _ _ _ h => h) (by kernel_rfl) (by assumption) ?_ ?_; rotate_left; (focus (intro w hSw; (try dsimp only at hSw); go_simp; (first | done | (with_reducible rfl)))); (try simp only [Act.put, List.setIfInBounds_toArray, List.set_cons_zero, List.set_cons_succ])
              refine tk_yes 44 (v := ?_) rfl (by kernel_rfl) (by kernel_rfl) (by kernel_rfl) (fun _ _ _ h => h) (by kernel_rfl) (by assumption) ?_ ?_; rotate_left; (focus (intro w hSw; (try dsimp only at hSw); go_simp; (first | done | (with_reducible rfl)))); (try simp only [Act.put, List.setIfInBounds_toArray, List.set_cons_zero, List.set_cons_succ])
              refine tk_yes 45 (v := ?_) rfl (by kernel_rfl) (by kernel_rfl) (by kernel_rfl) (fun _ _ _ h => h) (by kernel_rfl) (by assumption) ?_ ?_; rotate_left; (focus (intro w hSw; (try dsimp only at hSw); go_simp; (first | done | (with_reducible rfl)))); (try simp only [Act.put, List.setIfInBounds_toArray, List.set_cons_zero, List.set_cons_succ])
              refine tk_yes 46 (v := ?_) rfl (by kernel_rfl) (by kernel_rfl) (by kernel_rfl) (fun _ _ _ h => h) (by kernel_rfl) (by assumption) ?_ ?_; rotate_left; (focus (intro w hSw; (try dsimp only at hSw); go_simp; (first | done | (with_reducible rfl)))); (try simp only [Act.put, List.setIfInBounds_toArray, List.set_cons_zero, List.set_cons_succ])
              refine tk_yes 47 (v := ?_) rfl (by kernel_rfl) (by kernel_rfl) (by kernel_rfl) (fun _ _ _ h => h) (by kernel_rfl) (by assumption) ?_ ?_; rotate_left; (focus (intro w hSw; (try dsimp only at hSw); go_simp; (first | done | (with_reducible rfl)))); (try simp only [Act.put, List.setIfInBounds_toArray, List.set_cons_zero, List.set_cons_succ])
              refine tk_yes 48 (v := ?_) rfl (by kernel_rfl) (by kernel_rfl) (by kernel_rfl) (fun _ _ _ h => h) (by kernel_rfl) (by assumption) ?_ ?_; rotate_left; (focus (intro w hSw; (try dsimp only at hSw); go_simp; (first | done | (with_reducible rfl)))); (try simp only [Act.put, List.setIfInBounds_toArray, List.set_cons_zero, List.set_cons_succ])
              refine tk_yes 49 (v := ?_) rfl (by kernel_rfl) (by kernel_rfl) (by kernel_rfl) (fun _ _ _ h => h) (by kernel_rfl) (by assumption) ?_ ?_; rotate_left; (focus (intro w hSw; (try dsimp only at hSw); go_simp; (first | done | (with_reducible rfl)))); (try simp only [Act.put, List.setIfInBounds_toArray, List.set_cons_zero, List.set_cons_succ])
              refine tk_call 50 rfl (by kernel_rfl) (by kernel_rfl) (fun KW hKW => ?_); go_simp; go_at_call 81; refine (KI.out _ (by repeat (first | exact Below.refl _ _ | assumption | refine bel_drew ?_ | refine bel_drewN ?_ _ | refine bel_alloc ?_ _ | refine bel_trans ?_ (by assumption)))).mono ?_; rintro e u50 ⟨rfl, hb50⟩; have B50 := bel_to (W0 := wr) (by repeat (first | exact Below.refl _ _ | assumption | refine bel_drew ?_ | refine bel_drewN ?_ _ | refine bel_alloc ?_ _ | refine bel_trans ?_ (by assumption))) hb50; have q := hS.out _ B50; clear hb50; refine hKW.out _ _ ?_ (fun hHeld => ?_); (focus ((try dsimp only); first | exact q | exact hS.out _ (by repeat (first | exact Below.refl _ _ | assumption | refine bel_drew ?_ | refine bel_drewN ?_ _ | refine bel_alloc ?_ _ | refine bel_trans ?_ (by assumption))))); clear hKW KW; (try simp only [Act.put, List.setIfInBounds_toArray, List.set_cons_zero, List.set_cons_succ])
              refine tk_yes 51 (v := ?_) rfl (by kernel_rfl) (by kernel_rfl) (by kernel_rfl) (fun _ _ _ h => h) (by kernel_rfl) (by assumption) ?_ ?_; rotate_left; (focus (intro w hSw; (try dsimp only at hSw); go_simp; (first | done | (with_reducible rfl)))); (try simp only [Act.put, List.setIfInBounds_toArray, List.set_cons_zero, List.set_cons_succ])
              refine tk_yes 52 (v := ?_) rfl (by kernel_rfl) (by kernel_rfl) (by kernel_rfl) (fun _ _ _ h => h) (by kernel_rfl) (by assumption) ?_ ?_; rotate_left; (focus (intro w hSw; (try dsimp only at hSw); go_simp; (first | done | (with_reducible rfl)))); (try simp only [Act.put, List.setIfInBounds_toArray, List.set_cons_zero, List.set_cons_succ])
              refine wpAnyH_done (by kernel_rfl) ?_ _
              go_wp2_with fail
              go_roundw
              case rel => exact HRK.out _ (by first | assumption | exact B50)
              case measure => simp [intOf]; omega
        · have hkn : k2 = ln := by omega
          have hlkI : ¬ (k2 : Int) < (ln : Int) := by omega
          have wt1 : IntKind.i64.wrap ((t : Int) + 1) = ((t + 1 : Nat) : Int) := by rw [IntKind.wrap_i64]; have := IR.out.2.1; omega
          go_wp2_with fail
          go_roundw
          case rel => exact ⟨t + 1, by rw [hnR.out]; omega, rfl, by rw [HW2.out]; rfl, HBP2.out⟩
          case measure => simp [intOf]; omega
    · have htn : t = nR := by omega
      have HE : Hid (wtW N S.up (Rs.take t) = k) := Lib.hid (by rw [htn, ← hnR.out, List.take_length]; exact HRW.out)
      have hlt2 : ¬ (t : Int) < (nR : Int) := by omega
      clear hlt htn
      rw [HE.out]
      have KL := Lib.hid (overf_Len (FO8.out.keep HB.out))
      rw [HOL.out] at KL
      go_wp2_with fail
      refine KL.out.mono ?_
      rintro e w9 ⟨rfl, rfl⟩
      go_wp2_with fail
      refine (walk_Pre_nil 0 _).mono ?_
      rintro e x1 ⟨rfl, b1⟩
      go_wp2_with fail
      refine (walk_Post_nil 0 _).mono ?_
      rintro e x2 ⟨rfl, b2⟩
      go_wp2_with fail
      refine (walk_Size_nil 0 _).mono ?_
      rintro e x3 ⟨rfl, b3⟩
      go_wp2_with fail
      refine (walk_Depth_nil 0 _).mono ?_
      rintro e x4 ⟨rfl, rfl⟩
      go_wp2_with fail
      refine (walk_Top_nil 0 _).mono ?_
      rintro e x5 ⟨rfl, rfl⟩
      go_wp2_with fail
      refine (walk_Within_nil 0 0 _).mono ?_
      rintro e x6 ⟨rfl, b6⟩
      go_wp2_with fail
      refine (law38_works _).mono ?_
      rintro e x7 ⟨rfl, b7⟩
      go_wp2_with fail
      go_ret
      exact ⟨rfl, (bel_trans (bel_trans (bel_trans (bel_trans (bel_trans (bel_trans FO8.out.below HB.out) b1) b2) b3) b6) b7)⟩
end Go.Proofs.Ytdhcmnbajkpjiaa
/-
  slices.IndexFunc and slices.DeleteFunc of ints in a row of the call's own, at any function value.
-/
namespace Go.Proofs.Ytdhcmnbajkpjiaa
open Go.RowKit
open Go.Maps
set_option linter.unusedVariables false
set_option linter.unusedSimpArgs false
attribute [local go_sem] drewN_alloc drewN_setCell

def keepN (q : Int → Bool) (xs : List Int) (k : Nat) : List Int := (xs.take k).filter q
theorem keepN_succ (q : Int → Bool) {xs : List Int} {k : Nat} (hk : k < xs.length) : keepN q xs (k + 1) = if q (xs.getD k 0) = true then keepN q xs k ++ [xs.getD k 0] else keepN q xs k := by
  unfold keepN
  rw [PG.take_succ_getD hk, List.filter_append]
  split <;> simp_all
theorem keepN_len (q : Int → Bool) (xs : List Int) (k : Nat) : (keepN q xs k).length ≤ k := by
  have := List.length_filter_le q (xs.take k)
  rw [List.length_take] at this
  exact Nat.le_trans this (Nat.min_le_left _ _)
theorem keepN_all {q : Int → Bool} {xs : List Int} : ∀ (k : Nat), k ≤ xs.length → (∀ j, j < k → q (xs.getD j 0) = true) → keepN q xs k = xs.take k
  | 0, _, _ => rfl
  | k + 1, hk, h => by rw [keepN_succ q (by omega), if_pos (h k (by omega)), keepN_all k (by omega) (fun j hj => h j (by omega)), PG.take_succ_getD (by omega)]
theorem below_setCells' {B b : Nat} {a : World} (hb : B ≤ b) : ∀ (vs : List Value) (o : Nat) (w : World), Below B a w → Below B a (w.setCells b o vs)
  | [], _, _, h => h
  | v :: vs, o, w, h => below_setCells' hb vs (o + 1) _ (h.setCell (by dsimp only; exact hb) v)
/-- The row holds these ints. -/
def Vals (w : World) (g n : Nat) (xs : List Int) : Prop := g < w.heap.size ∧ xs.length = n ∧ (∀ t, t < n → w.cell? ⟨g, t, none⟩ = some (.int .i64 (xs.getD t 0))) ∧ ∀ t, w.frozen? ⟨g, t, none⟩ = false
def FirstRel (w : World) (p : Int → Bool) (xs : List Int) (n : Nat) (i : Value) (wr : World) : Prop :=
  ∃ k : Nat, k ≤ n ∧ i = .int .i64 k ∧ (∀ j, j < k → p (xs.getD j 0) = false) ∧ Below w.heap.size w wr
set_option maxHeartbeats 4000000 in
theorem ints_IndexFunc {A : Option Addr} {n : Nat} {xs : List Int} (c g : Nat) (lb : Array Value) (p : Int → Bool) {w : World} (h : IntsAt w A n xs)
    (eg : ∀ args w, (callFunc g args).run Try.prog w = .ok (.enter g args) w)
    (hp : ∀ j, j < n → ∀ W, Below w.heap.size w W → Calls Try.prog g (#[.int .i64 (xs.getD j 0)] ++ lb) W fun e w' => e = .returned (.bool (p (xs.getD j 0))) ∧ Below W.heap.size W w') :
    Calls Try.prog 154 #[.slice A n c, .func (.func g) #[] lb] w fun e w' => ∃ r : Int, e = .returned (.int .i64 r) ∧ Below w.heap.size w w' ∧ ((r = -1 ∧ ∀ j, j < n → p (xs.getD j 0) = false) ∨ ∃ k : Nat, k < n ∧ r = k ∧ p (xs.getD k 0) = true ∧ ∀ j, j < k → p (xs.getD j 0) = false) := by
  have HX := Lib.hid h.1
  have HN := h.2.1
  have HC := Lib.hid h.2.2
  have HP := Lib.hid hp
  have hcf : ∀ m w, (callFunc g (#[m] ++ lb)).run Try.prog w = .ok (.enter g (#[m] ++ lb)) w := fun m w => eg _ w
  clear h hp
  go_enter Try.func154, Try.ntmps154
  go_wp2_with fail
  go_loopw [8] (fun i wr => FirstRel w p xs n i wr) (fun i _ => n - (intOf i).toNat)
  case atStart => exact ⟨0, Nat.zero_le _, rfl, fun j hj => absurd hj (by omega), Below.refl _ _⟩
  case round =>
    obtain ⟨k, hk, rfl, hnot, hbel⟩ := hrel
    have HNOT := Lib.hid hnot
    clear hnot
    have j1 : (0 : Int) ≤ (k : Int) := by omega
    by_cases hlt : (k : Int) < n
    · obtain ⟨b, off, rfl, hb, hcs⟩ := HC.out (by omega)
      have x0 := (hbel.cell (p := ⟨b, off + k, none⟩) hb).trans (hcs k (by omega))
      have KP := HP.out k (by omega) wr hbel
      obtain ⟨y, hy⟩ : ∃ y, xs.getD k 0 = y := ⟨_, rfl⟩
      rw [hy] at x0 KP
      have HY := Lib.hid hy
      clear hy hcs
      rcases hq : p y with _ | _
      · rw [hq] at KP
        have HE : Hid (∀ j, j < k + 1 → p (xs.getD j 0) = false) := Lib.hid (fun j hj => by
          rcases Nat.lt_or_ge j k with h1 | h1
          · exact HNOT.out j h1
          · obtain rfl : j = k := by omega
            rw [HY.out]; exact hq)
        replace KP := Lib.hid KP
        clear hq
        go_wp2_with fail
        refine KP.out.mono ?_
        rintro e w1 ⟨rfl, h1⟩
        go_wp2_with fail
        go_roundw
        case rel => exact ⟨k + 1, by omega, by go_num, HE.out, (by repeat (first | exact Below.refl _ _ | assumption | refine bel_drew ?_ | refine bel_drewN ?_ _ | refine bel_alloc ?_ _ | refine bel_set ?_ (by first | (dsimp only; omega) | (simp; done) | (simp; omega)) _ | refine bel_trans ?_ (by assumption)))⟩
        case measure => simp [intOf]; omega
      · rw [hq] at KP
        have HE : Hid (p (xs.getD k 0) = true) := Lib.hid (by rw [HY.out]; exact hq)
        replace KP := Lib.hid KP
        clear hq
        go_wp2_with fail
        refine KP.out.mono ?_
        rintro e w1 ⟨rfl, h1⟩
        go_wp2_with fail
        go_ret
        exact ⟨_, rfl, (by repeat (first | exact Below.refl _ _ | assumption | refine bel_drew ?_ | refine bel_drewN ?_ _ | refine bel_alloc ?_ _ | refine bel_set ?_ (by first | (dsimp only; omega) | (simp; done) | (simp; omega)) _ | refine bel_trans ?_ (by assumption))), .inr ⟨k, by omega, rfl, HE.out, HNOT.out⟩⟩
    · go_wp2_with fail
      go_ret
      exact ⟨_, rfl, (by repeat (first | exact Below.refl _ _ | assumption | refine bel_drew ?_ | refine bel_drewN ?_ _ | refine bel_alloc ?_ _ | refine bel_set ?_ (by first | (dsimp only; omega) | (simp; done) | (simp; omega)) _ | refine bel_trans ?_ (by assumption))), .inl ⟨rfl, fun j hj => HNOT.out j (by omega)⟩⟩

def DelRel (V : World) (g n : Nat) (q : Int → Bool) (xs : List Int) (i j : Value) (wr : World) : Prop :=
  ∃ ii jj : Nat, i = .int .i64 ii ∧ j = .int .i64 jj ∧ jj ≤ n ∧ ii < jj ∧ ii = (keepN q xs jj).length ∧ (∀ t, t < ii → wr.cell? ⟨g, t, none⟩ = some (.int .i64 (((keepN q xs jj)).getD t 0))) ∧
    (∀ t, jj ≤ t → t < n → wr.cell? ⟨g, t, none⟩ = some (.int .i64 (xs.getD t 0))) ∧ (∀ t, t < n → ∃ v : Int, wr.cell? ⟨g, t, none⟩ = some (.int .i64 v)) ∧ (∀ t, wr.frozen? ⟨g, t, none⟩ = false) ∧ g < wr.heap.size ∧ Below g V wr

set_option maxRecDepth 100000 in
set_option maxHeartbeats 8000000 in
theorem ints_DeleteFunc {g n c G : Nat} (lb : Array Value) (q : Int → Bool) (xs : List Int) {V : World} (h : Vals V g n xs) (hnc : n ≤ c) (hcm : c ≤ 9223372036854775807) 
    (eg : ∀ args w, (callFunc G args).run Try.prog w = .ok (.enter G args) w)
    (hp : ∀ X, Below g V X → ∀ i : Nat, i < n → Calls Try.prog G (#[.int .i64 (xs.getD i 0)] ++ lb) X fun e w' => e = .returned (.bool (!q (xs.getD i 0))) ∧ Below X.heap.size X w') :
    Calls Try.prog 141 #[.slice (some ⟨g, 0, none⟩) n c, .func (.func G) #[] lb] V fun e w' => ∃ c', e = .returned (.slice (some ⟨g, 0, none⟩) (keepN q xs n).length c') ∧ IntsAt w' (some ⟨g, 0, none⟩) (keepN q xs n).length ((keepN q xs n)) ∧ Below g V w' := by
  obtain ⟨hg, hlx, hc, hf⟩ := h
  have HLX := Lib.hid hlx
  have hn : n ≤ 9223372036854775807 := by omega
  have hI : IntsAt V (some ⟨g, 0, none⟩) n xs := ⟨hlx, hn, fun _ => ⟨g, 0, rfl, hg, fun i hi => by rw [Nat.zero_add]; exact hc i hi⟩⟩
  have KI := ints_IndexFunc c G lb (fun y => !q y) hI eg (fun j hj W hW => hp W (hW.mono (by omega)) j hj)
  have KI2 := KI.mono (R' := fun e w' => ∃ r : Int, e = .returned (.int .i64 r) ∧ Below V.heap.size V w' ∧ ((r = -1 ∧ ∀ j, j < n → q (xs.getD j 0) = true) ∨ ∃ k : Nat, k < n ∧ r = k ∧ q (xs.getD k 0) = false ∧ ∀ j, j < k → q (xs.getD j 0) = true)) (by
    rintro e w' ⟨r, he, hb, hr⟩
    refine ⟨r, he, hb, ?_⟩
    rcases hr with ⟨hr, ha⟩ | ⟨k, hk, hr, h1, h2⟩
    · exact .inl ⟨hr, fun j hj => by have := ha j hj; simpa using this⟩
    · exact .inr ⟨k, hk, hr, by simpa using h1, fun j hj => by have := h2 j hj; simpa using this⟩)
  have HK := Lib.hid KI2
  have HP := Lib.hid hp
  have HC := Lib.hid hc
  have HF := Lib.hid hf
  have hcf : ∀ m w, (callFunc G (#[m] ++ lb)).run Try.prog w = .ok (.enter G (#[m] ++ lb)) w := fun m w => eg _ w
  clear KI KI2 hp hI hc hf hlx
  go_enter Try.func141, Try.ntmps141
  go_wp2_with fail
  refine HK.out.mono ?_
  rintro e w1 ⟨r, rfl, h1, (⟨rfl, hall⟩ | ⟨k, hk, rfl, hqk, hqj⟩)⟩
  · have e : keepN q xs n = xs := by rw [keepN_all n (Nat.le_of_eq HLX.out.symm) hall, List.take_of_length_le (Nat.le_of_eq HLX.out)]
    have hI : IntsAt w1 (some ⟨g, 0, none⟩) n xs := ⟨HLX.out, hn, fun _ => ⟨g, 0, rfl, Nat.lt_of_lt_of_le hg h1.size, fun i hi => by
      rw [Nat.zero_add, h1.cell hg]; exact HC.out i hi⟩⟩
    have HI := Lib.hid hI
    have HE := Lib.hid e
    clear hI e hall
    go_wp2_with fail
    exact bodyPost_ret (v := .slice (some ⟨g, 0, none⟩) n c) (by simp [results, Try.results141, go_sem]) rfl ⟨c, by rw [HE.out, HLX.out], by rw [HE.out, HLX.out]; exact HI.out, h1.mono (by omega)⟩
  · have hkn : ¬ ((k : Int) = -1) := by omega
    have q1 : ((k : Int) == -1) = false := by simp
    have hst : Hid (DelRel V g n q xs (.int .i64 (k : Int)) (.int .i64 ((k : Int) + 1)) w1) := Lib.hid (by
      have hkx : k < xs.length := by rw [HLX.out]; exact hk
      have e0 := keepN_all k (Nat.le_of_lt hkx) hqj
      have e : keepN q xs (k + 1) = xs.take k := by rw [keepN_succ q hkx, hqk, if_neg (by simp), e0]
      have etl : (xs.take k).length = k := by rw [List.length_take]; omega
      have hcell : ∀ t, t < n → w1.cell? ⟨g, t, none⟩ = some (.int .i64 (xs.getD t 0)) := fun t ht => (h1.cell hg).trans (HC.out t ht)
      refine ⟨k, k + 1, rfl, by simp, by omega, by omega, by rw [e, etl], fun t ht => ?_, fun t _ ht => hcell t ht, fun t ht => ⟨_, hcell t ht⟩, fun t => (h1.frozen (p := ⟨g, t, none⟩) hg).trans (HF.out t), Nat.lt_of_lt_of_le hg h1.size, h1.mono (by omega)⟩
      rw [e, hcell t (by omega)]
      simp [List.getD, List.getElem?_take, ht])
    clear hqk hqj
    go_wp2_with fail
    go_loopw [5, 6] (fun i j wr => DelRel V g n q xs i j wr) (fun _ j _ => n - (intOf j).toNat)
    case atStart => exact hst.out
    case round =>
      obtain ⟨ii, jj, rfl, rfl, hj, hij, hil, hlow, hhigh, hsome, hfr, hgw, hbel⟩ := hrel
      have HLOW := Lib.hid hlow
      have HHIGH := Lib.hid hhigh
      have HSOME := Lib.hid hsome
      have HFR := Lib.hid hfr
      have HIL := Lib.hid hil
      have j0 : (0 : Int) ≤ (ii : Int) := by omega
      have j1 : (0 : Int) ≤ (jj : Int) := by omega
      have j2 : (ii : Int) < (n : Int) := by omega
      clear hlow hhigh hsome hfr hil
      by_cases hlt : (jj : Int) < n
      · have y0 := HHIGH.out jj (Nat.le_refl _) (by omega)
        have KP := HP.out wr hbel jj (by omega)
        have hks := keepN_succ q (xs := xs) (show jj < xs.length by rw [HLX.out]; omega)
        obtain ⟨y, hy⟩ : ∃ y, xs.getD jj 0 = y := ⟨_, rfl⟩
        rw [hy] at y0 KP hks
        cases hq : q y
        · rw [hq] at KP hks
          rw [if_neg (by simp)] at hks
          replace KP := Lib.hid KP
          have HKS := Lib.hid hks
          clear hq hks hy
          go_wp2_with fail
          refine KP.out.mono ?_
          rintro e w2 ⟨rfl, h2⟩
          go_wp2_with fail
          go_roundw
          case rel => exact ⟨ii, jj + 1, rfl, by go_num, by omega, by omega, by rw [HKS.out]; exact HIL.out, fun t ht => by rw [HKS.out]; exact (h2.cell hgw).trans (HLOW.out t ht), fun t h3 h4 => (h2.cell hgw).trans (HHIGH.out t (by omega) h4), fun t ht => by obtain ⟨v, hv⟩ := HSOME.out t ht; exact ⟨v, (h2.cell hgw).trans hv⟩, fun t => (h2.frozen (p := ⟨g, t, none⟩) hgw).trans (HFR.out t), Nat.lt_of_lt_of_le hgw h2.size, hbel.trans (h2.mono (by omega))⟩
          case measure => simp [intOf]; omega
        · rw [hq] at KP hks
          rw [if_pos rfl] at hks
          replace KP := Lib.hid KP
          have HKS := Lib.hid hks
          obtain ⟨vi, hvi⟩ := HSOME.out ii (by omega)
          have fi := HFR.out ii
          clear hq hks hy
          go_wp2_with fail
          refine KP.out.mono ?_
          rintro e w2 ⟨rfl, h2⟩
          have z0 := (h2.cell hgw).trans hvi
          have zf := (h2.frozen (p := ⟨g, ii, none⟩) hgw).trans fi
          go_wp2_with fail
          go_roundw
          case rel =>
            have far : ∀ t, t ≠ ii → (w2.setCell ⟨g, ii, none⟩ (.int .i64 y)).cell? ⟨g, t, none⟩ = wr.cell? ⟨g, t, none⟩ := fun t ht => (World.cell?_setCell_other _ _ _ _ (by first | (simp; done) | (simp; exact fun h => ht h.symm))).trans (h2.cell hgw)
            have hlen : (keepN q xs jj).length = ii := HIL.out.symm
            refine ⟨ii + 1, jj + 1, by go_num, by go_num, by omega, by omega, by rw [HKS.out, List.length_append, ← HIL.out]; rfl, fun t ht => ?_, fun t h3 h4 => (far t (by omega)).trans (HHIGH.out t (by omega) h4), fun t ht => ?_, fun t => by rw [World.frozen?_setCell]; exact (h2.frozen (p := ⟨g, t, none⟩) hgw).trans (HFR.out t), by rw [World.size_setCell]; exact Nat.lt_of_lt_of_le hgw h2.size, (hbel.trans (h2.mono (by omega))).setCell (by dsimp only; omega) _⟩
            · rw [HKS.out]
              by_cases e : t = ii
              · subst e
                rw [World.cell?_setCell_same _ _ _ z0]
                simp [List.getD, List.getElem?_append_right, hlen]
              · rw [far t e, HLOW.out t (by omega)]
                simp [List.getD, List.getElem?_append_left (show t < ((keepN q xs jj)).length by omega)]
            · by_cases e : t = ii
              · subst e
                exact ⟨_, World.cell?_setCell_same _ _ _ z0⟩
              · obtain ⟨v, hv⟩ := HSOME.out t ht
                exact ⟨v, (far t e).trans hv⟩
          case measure => simp [intOf]; omega
      · obtain rfl : n = jj := by omega
        have hcl := Lib.run_clear_slice (P := Try.prog) wr 27 3 0 (.int .i64 0) Try.underlying27 (fun w => Try.zeroValue3 w) rfl rfl g ii (n - ii) (c - ii) (by omega) (fun j hj => by obtain ⟨v, hv⟩ := HSOME.out (ii + j) (by omega); rw [hv]; rfl) (fun j _ => HFR.out _)
        have hle : (ii : Int) ≤ (n : Int) := by omega
        have e := HIL.out
        have hb := below_setCells' (Nat.le_refl g) (List.replicate (n - ii) (.int .i64 0)) ii wr hbel
        have hI : IntsAt (wr.setCells g ii (List.replicate (n - ii) (.int .i64 0))) (some ⟨g, 0, none⟩) ii ((keepN q xs n)) := ⟨e.symm, by omega, fun _ => ⟨g, 0, rfl, Nat.lt_of_lt_of_le hg hb.size, fun t ht => by
          rw [Nat.zero_add, World.cell?_setCells_out g _ _ _ _ (fun _ _ => .inl ht)]
          exact HLOW.out t ht⟩⟩
        have HI := Lib.hid hI
        have HB := Lib.hid hb
        have HE := Lib.hid e
        clear e hI hb
        go_wp2_with fail
        exact bodyPost_ret (v := .slice (some ⟨g, 0, none⟩) ii c) (by simp [results, Try.results141, go_sem]) rfl ⟨⟨c, by rw [← HE.out]⟩, by rw [← HE.out]; exact HI.out, HB.out⟩

end Go.Proofs.Ytdhcmnbajkpjiaa
/-
  Layer 38 (walk): Level, Leaves.
-/
namespace Go.Proofs.Ytdhcmnbajkpjiaa
open Go.RowKit
open Go.Maps
set_option linter.unusedVariables false
set_option linter.unusedSimpArgs false
attribute [local go_sem] drewN_alloc drewN_setCell

variable {w0 w w' : World} {own : Nat → Prop} {Fb n : Nat} {S : FSt} {N : List Nat} {up : List Int}
/-- A subtree, depth by depth. -/
def levW (N : List Nat) (up : List Int) (x : Int) : List Nat := if 0 ≤ x ∧ x.toNat ∈ N then PW.que (childW N up) (rkW N) [x.toNat] else []
theorem levW_no {x : Int} (hx : ¬ (0 ≤ x ∧ x.toNat ∈ N)) : levW N up x = [] := if_neg hx
theorem levW_yes {p : Nat} (hp : p ∈ N) : levW N up (p : Int) = PW.que (childW N up) (rkW N) [p] := by unfold levW; rw [if_pos (is_node hp)]; simp
theorem levW_len (hO : Ord N up) (x : Int) : (levW N up x).length = (preW N up x).length := by
  by_cases hx : 0 ≤ x ∧ x.toNat ∈ N
  · obtain ⟨p, rfl⟩ : ∃ p : Nat, x = (p : Int) := ⟨x.toNat, by omega⟩
    have hp : p ∈ N := by simpa using hx.2
    rw [levW_yes hp, PW.que_len hO.is.hk _ _ rfl]
    exact wtW_one hp
  · rw [levW_no hx, preW_no hx]
def LevRel (W0 : World) (N : List Nat) (up : List Int) (all : List Nat) (v i : Value) (wr : World) : Prop :=
  ∃ (d td : List Nat), i = .int .i64 (d.length : Nat) ∧ OwnI W0.heap.size wr v (ints (d ++ td)) ∧ d ++ PW.que (childW N up) (rkW N) td = all ∧ (∀ z ∈ td, z ∈ N) ∧ Below W0.heap.size W0 wr
theorem que_ge (h : ∀ x c, c ∈ childW N up x → rkW N c < rkW N x) (l : List Nat) : l.length ≤ (PW.que (childW N up) (rkW N) l).length := by
  have := PW.que_rows (kid := childW N up) h l
  rw [this, List.length_append]; omega
set_option maxHeartbeats 8000000 in
theorem walk_Level (x : Int) (hO : Ord N S.up) (rel : NRel n S N) (h : ForestOver w0 w own Fb n S) :
    Calls Try.prog 85 #[.pointer (some ⟨Fb, 0, none⟩), .int .i64 x] w (GivesInts w (ints (levW N S.up x))) := by
  have HF := Lib.hid h
  have hN := rel.le h.fi
  have hal : (levW N S.up x).length ≤ 4096 := by rw [levW_len hO]; have := preW_len hO x; omega
  have KI := Lib.hid (overf_Is x h)
  obtain ⟨all, hall⟩ : ∃ all, levW N S.up x = all := ⟨_, rfl⟩
  rw [hall] at hal ⊢
  by_cases hx : 0 ≤ x ∧ x.toNat ∈ N
  · have e1 : decide (x ∈ ints S.O) = true := decide_eq_true ((in_nodes rel x).2 hx)
    obtain ⟨p, rfl⟩ : ∃ p : Nat, x = (p : Int) := ⟨x.toNat, by omega⟩
    have hp : p ∈ N := by simpa using hx.2
    have HE : Hid ([] ++ PW.que (childW N S.up) (rkW N) [p] = all) := Lib.hid (by rw [← hall, levW_yes hp]; rfl)
    have HP := Lib.hid hp
    rw [e1] at KI
    clear h hx e1 hall hp
    go_enter Try.func85, Try.ntmps85
    go_wp2_with fail
    refine KI.out.mono ?_
    rintro e w1 ⟨rfl, rfl⟩
    clear KI
    go_upto_region 5 with (fail)
    refine region_name ?_
    rintro w2 hw2
    have b2 : Below w.heap.size w w2 := by rw [hw2]; exact (by repeat (first | exact Below.refl _ _ | assumption | refine bel_drew ?_ | refine bel_drewN ?_ _ | refine bel_alloc ?_ _ | refine bel_set ?_ (by first | (dsimp only; omega) | (simp; done) | (simp; omega)) _ | refine bel_trans ?_ (by assumption)))
    have HR : Hid (LevRel w N S.up all (.slice (some ⟨w.heap.size, 0, none⟩) 1 1) (.int .i64 0) w2) := Lib.hid ⟨[], [p], rfl, OwnI.of_row (g := w.heap.size) (Nat.le_refl _) (by rw [hw2]; exact World.alloc_heap_new _ _) rfl (by omega), HE.out, fun z hz => by rw [List.mem_singleton] at hz; exact hz ▸ HP.out, b2⟩
    clear hw2 b2
    go_wp2_with fail
    go_loopw [5, 6] (fun v i wr => LevRel w N S.up all v i wr) (fun _ i _ => all.length - (intOf i).toNat)
    case atStart => exact HR.out
    case round =>
      clear HR HE
      obtain ⟨d, td, rfl, ho, he, hin, hb⟩ := hrel
      obtain ⟨Av, cv, hv⟩ := own_shape ho
      subst hv
      have HO1 := Lib.hid ho
      have HE := Lib.hid he
      have HIN := Lib.hid hin
      have HB := Lib.hid hb
      obtain ⟨dl, hdl⟩ : ∃ dl, d.length = dl := ⟨_, rfl⟩
      obtain ⟨ol, hol⟩ : ∃ ol, (ints (d ++ td)).length = ol := ⟨_, rfl⟩
      rw [hdl]
      rw [hol] at HO1 ⊢
      have HDL := Lib.hid hdl
      have HOL := Lib.hid hol
      have hq := que_ge (N := N) (up := S.up) hO.is.hk td
      have hlen := congrArg List.length he
      rw [List.length_append] at hlen
      rw [ints_len, List.length_append] at hol
      clear ho he hin hb
      cases td with
      | nil =>
        have g0 : ¬ (dl : Int) < (ol : Int) := by rw [List.length_nil] at hol; omega
        have HE2 : Hid (d = all) := Lib.hid (by rw [← HE.out, PW.que_nil, List.append_nil])
        have hol3 : ol ≤ 4096 := by rw [List.length_nil] at hol; omega
        have HOA : Hid (OwnI w.heap.size wr (.slice Av ol cv) (ints all)) := Lib.hid (by have := HO1.out; rw [List.append_nil, HE2.out] at this; exact this)
        have HAL : Hid ((ints all).length ≤ 9223372036854775807) := Lib.hid (by rw [ints_len]; omega)
        clear hol hlen hq hdl
        go_wp2_with fail
        go_ret
        exact own_gives HOA.out HAL.out HB.out
      | cons z td =>
        have hz : z ∈ N := HIN.out z (by simp)
        have hdo : dl < ol := by rw [List.length_cons] at hol; omega
        have g0 : (dl : Int) < (ol : Int) := by omega
        have g1 : (0 : Int) ≤ (dl : Int) := by omega
        have hzat : (d ++ z :: td)[dl]? = some z := by rw [← hdl, List.getElem?_append_right (Nat.le_refl _), Nat.sub_self]; rfl
        have hIv := HO1.out.intsV
        rw [HOL.out] at hIv
        obtain ⟨-, b, off, rfl, hbl, x0⟩ := ints_at hIv hzat
        have KC := Lib.hid (overf_kids hO rel (HF.out.keep HB.out) hz)
        have hqc := PW.que_cons (kid := childW N S.up) hO.is.hk z td
        have HE2 : Hid ((d ++ [z]) ++ PW.que (childW N S.up) (rkW N) (td ++ childW N S.up z) = all) := Lib.hid (by rw [← HE.out, hqc]; simp)
        have HIN2 : Hid (∀ y ∈ td ++ childW N S.up z, y ∈ N) := Lib.hid (fun y hy => by
          rw [List.mem_append] at hy
          rcases hy with hy | hy
          · exact HIN.out y (by simp [hy])
          · exact ((hO.is.kp z y).1 hy).1)
        have HT2 : Hid (ints (d ++ z :: td) ++ ints (childW N S.up z) = ints ((d ++ [z]) ++ (td ++ childW N S.up z))) := Lib.hid (by rw [← ints_app]; simp)
        have hkl : (childW N S.up z).length ≤ 4096 := Nat.le_trans (List.length_filter_le _ _) hN
        have hol3 : ol ≤ 4096 := by rw [hqc] at hq hlen; simp only [List.length_cons] at hlen hol hq; have := que_ge (N := N) (up := S.up) hO.is.hk (td ++ childW N S.up z); rw [List.length_append] at this; omega
        have hdl4 : dl < all.length := by have := congrArg List.length HE2.out; rw [List.length_append, List.length_append, List.length_singleton, hdl] at this; omega
        have wd : IntKind.i64.wrap ((dl : Int) + 1) = ((dl + 1 : Nat) : Int) := by rw [IntKind.wrap_i64]; omega
        clear hol hlen hq hdl hzat hIv hqc hz
        go_wp2_with fail
        refine KC.out.mono ?_
        rintro e w3 ⟨A3, n3, c3, rfl, i3, b3⟩
        have B3 := Lib.hid (bel_trans HB.out b3)
        have HO3 := Lib.hid (HO1.out.keep b3)
        have I3 := Lib.hid i3.1
        clear i3 b3 KC x0 hbl
        go_wp2_with (at_builtin; refine app_listI rfl (.tmp 19) (.tmp 25) rfl w.heap.size _ (ints (d ++ z :: td)) rfl HO3.out A3 n3 c3 (ints (childW N S.up z)) rfl I3.out.srcI (by have e := I3.out.1; rw [ints_len] at e; rw [HOL.out]; omega) B3.out.size ?_; intro V9 w9 ho9 hb9; rw [HT2.out] at ho9; have HO9 := Lib.hid ho9; have B9 := Lib.hid (B3.out.trans hb9); clear ho9 hb9)
        go_roundw
        case rel => exact ⟨d ++ [z], td ++ childW N S.up z, by rw [List.length_append, HDL.out]; rfl, HO9.out, HE2.out, HIN2.out, B9.out⟩
        case measure => simp [intOf]; omega
  · have e1 : decide (x ∈ ints S.O) = false := decide_eq_false (fun hh => hx ((in_nodes rel x).1 hh))
    have HE : Hid ([] = all) := Lib.hid (by rw [← hall, levW_no hx])
    rw [e1] at KI
    clear h hx e1 hall
    go_enter Try.func85, Try.ntmps85
    go_wp2_with fail
    refine KI.out.mono ?_
    rintro e w1 ⟨rfl, rfl⟩
    clear KI
    go_wp2_with fail
    go_ret
    exact own_gives (by rw [← HE.out]; exact OwnI.nil _ _) (by rw [← HE.out]; exact Nat.zero_le _) (Below.refl _ _)
end Go.Proofs.Ytdhcmnbajkpjiaa
/-
  Layer 38 (walk): Leaves.
-/
namespace Go.Proofs.Ytdhcmnbajkpjiaa
open Go.RowKit
open Go.Maps
set_option linter.unusedVariables false
set_option linter.unusedSimpArgs false
attribute [local go_sem] drewN_alloc drewN_setCell

variable {w0 w w' : World} {own : Nat → Prop} {Fb n : Nat} {S : FSt} {N : List Nat} {up : List Int}
/-- The nodes of a subtree that have no children. -/
def leafW (N : List Nat) (up : List Int) (x : Int) : List Nat := (preW N up x).filter (fun z => decide (childW N up z = []))
theorem ints_filter (p : Nat → Bool) (q : Int → Bool) (h : ∀ z : Nat, q (z : Int) = p z) : ∀ l : List Nat, (ints l).filter q = ints (l.filter p)
  | [] => rfl
  | a :: l => by
    show ((a : Int) :: ints l).filter q = _
    rw [List.filter_cons, List.filter_cons, h a, ints_filter p q h l]
    split <;> rfl
theorem own_cases {B : Nat} {v : Value} {l : List Int} (h : OwnI B w v l) : (v = .slice none 0 0 ∧ l = []) ∨ ∃ g c, v = .slice (some ⟨g, 0, none⟩) l.length c := by
  rcases h.2 with ⟨e, e1⟩ | ⟨g, cap, cur, e, _⟩
  · exact .inl ⟨e, List.eq_nil_of_length_eq_zero e1⟩
  · exact .inr ⟨g, cap, e⟩
def leafQ (N : List Nat) (up : List Int) (y : Int) : Bool := decide (childW N up y.toNat = [])
theorem OwnI.vals {B g n c : Nat} {l : List Int} (h : OwnI B w (.slice (some ⟨g, 0, none⟩) n c) l) : Vals w g l.length l ∧ n = l.length ∧ l.length ≤ c ∧ c ≤ 9223372036854775807 ∧ B ≤ g := by
  rcases h.2 with ⟨e, e1⟩ | ⟨g', cap, cur, e, hb, hgg, hn, hcm, hcs, hx⟩
  · cases e
  · cases e
    obtain ⟨A, c', e2, hi, -, -⟩ := h.ints
    cases e2
    have hg := (Array.getElem?_eq_some_iff.1 hgg).1
    refine ⟨⟨hg, rfl, fun t ht => ?_, fun t => ?_⟩, rfl, hn, by unfold maxLen at hcm; omega, hb⟩
    · obtain ⟨b, off, e3, _, hc⟩ := hi.2.2 (by omega)
      cases e3
      have := hc t ht
      rwa [Nat.zero_add] at this
    · simp [World.frozen?, hgg]
theorem walk_Leaves1 {X : World} {pb : Nat} (z : Nat) (hO : Ord N S.up) (rel : NRel n S N) (h : ForestOver w0 X own Fb n S) (hz : z ∈ N) (cp : X.cell? ⟨pb, 0, none⟩ = some (.pointer (some ⟨Fb, 0, none⟩))) :
    Calls Try.prog 142 #[.int .i64 (z : Int), .pointer (some ⟨pb, 0, none⟩)] X fun e w' => e = .returned (.bool (!leafQ N S.up (z : Int))) ∧ Below X.heap.size X w' := by
  have K := overf_First (z : Int) h
  rw [first_eq h.fi rel hz] at K
  have e : leafQ N S.up (z : Int) = decide (childW N S.up z = []) := by unfold leafQ; simp
  rw [e]
  clear e h rel hO hz
  generalize childW N S.up z = kids at *
  cases kids with
  | nil =>
    have e0 : PC.headD ([] : List Nat) = -1 := rfl
    rw [e0] at K
    replace K := Lib.hid K
    go_enter Try.func142, Try.ntmps142
    go_wp2_with fail
    refine K.out.mono ?_
    rintro e w1 ⟨rfl, rfl⟩
    go_wp2_with fail
    go_ret
    exact ⟨ret_bool (by simp), Below.refl _ _⟩
  | cons a l =>
    have e0 : PC.headD (a :: l) = (a : Int) := rfl
    rw [e0] at K
    replace K := Lib.hid K
    have g0 : (0 : Int) ≤ (a : Int) := by omega
    go_enter Try.func142, Try.ntmps142
    go_wp2_with fail
    refine K.out.mono ?_
    rintro e w1 ⟨rfl, rfl⟩
    go_wp2_with fail
    go_ret
    exact ⟨ret_bool (by simp), Below.refl _ _⟩
theorem ints_DeleteFunc_nil (G : Nat) (lb : Array Value) (V : World) (eg : ∀ args w, (callFunc G args).run Try.prog w = .ok (.enter G args) w) :
    Calls Try.prog 141 #[.slice none 0 0, .func (.func G) #[] lb] V fun e w' => e = .returned (.slice none 0 0) ∧ Below V.heap.size V w' := by
  have K := ints_IndexFunc (A := none) (n := 0) (xs := []) 0 G lb (fun _ => true) (w := V) IntsAt.nil eg (fun j hj => absurd hj (by omega))
  have K2 := K.mono (R' := fun e w' => e = .returned (.int .i64 (-1)) ∧ Below V.heap.size V w') (by
    rintro e w' ⟨r, he, hb, (⟨rfl, _⟩ | ⟨k, hk, _⟩)⟩
    · exact ⟨he, hb⟩
    · omega)
  replace K2 := Lib.hid K2
  clear K eg
  go_enter Try.func141, Try.ntmps141
  go_wp2_with fail
  refine K2.out.mono ?_
  rintro e w1 ⟨rfl, b1⟩
  go_wp2_with fail
  go_ret
  exact ⟨rfl, b1⟩
set_option maxHeartbeats 4000000 in
theorem walk_Leaves (x : Int) (hO : Ord N S.up) (rel : NRel n S N) (h : ForestOver w0 w own Fb n S) :
    Calls Try.prog 87 #[.pointer (some ⟨Fb, 0, none⟩), .int .i64 x] w (GivesInts w (ints (leafW N S.up x))) := by
  have HF := Lib.hid h
  have bA := bel_alloc (Below.refl w.heap.size w) (.cells #[.pointer (some ⟨Fb, 0, none⟩)] 52)
  have KP := Lib.hid (walk_PreO x hO rel (h.keep bA))
  have HIN : Hid (∀ z ∈ preW N S.up x, z ∈ N) := Lib.hid (fun z hz => by
    by_cases hx : 0 ≤ x ∧ x.toNat ∈ N
    · rw [preW_yes hx] at hz; exact PW.pre_in hO.is _ hx.2 z hz
    · rw [preW_no hx] at hz; simp at hz)
  have HL : Hid ((preW N S.up x).length ≤ 4096) := Lib.hid (by have := preW_len hO x; have := rel.le h.fi; omega)
  have HE : Hid (∀ k, k = (preW N S.up x).length → keepN (leafQ N S.up) (ints (preW N S.up x)) k = ints (leafW N S.up x)) := Lib.hid (fun k hk => by
    unfold keepN leafW
    rw [List.take_of_length_le (by rw [ints_len]; omega), ints_filter (fun z => decide (childW N S.up z = [])) _ (fun z => by unfold leafQ; simp)])
  obtain ⟨L, hL⟩ : ∃ L, preW N S.up x = L := ⟨_, rfl⟩
  rw [hL] at KP HIN HL HE
  clear h bA hL
  go_enter Try.func87, Try.ntmps87
  go_wp2_with fail
  refine KP.out.mono ?_
  rintro e w1 ⟨v1, rfl, ho, hb⟩
  have HB1 := Lib.hid (bel_trans (bel_alloc (Below.refl w.heap.size w) (.cells #[.pointer (some ⟨Fb, 0, none⟩)] 52)) hb)
  have cp : w1.cell? ⟨w.heap.size, 0, none⟩ = some (.pointer (some ⟨Fb, 0, none⟩)) := (hb.cell (p := ⟨w.heap.size, 0, none⟩) (by simp)).trans (by simp [go_sem])
  rcases own_cases ho with ⟨rfl, e1⟩ | ⟨g, c1, rfl⟩
  · have HN2 : Hid (ints (leafW N S.up x) = []) := Lib.hid (by rw [← HE.out 0 (by have := congrArg List.length e1; rw [ints_len] at this; exact this.symm)]; unfold keepN; simp)
    clear ho hb cp KP
    go_wp2_with fail
    refine (ints_DeleteFunc_nil 142 #[.pointer (some ⟨w.heap.size, 0, none⟩)] _ (fun args w => by simp [go_sem])).mono ?_
    rintro e w2 ⟨rfl, b2⟩
    go_wp2_with fail
    go_ret
    exact own_gives (by rw [HN2.out]; exact OwnI.nil _ _) (by rw [HN2.out]; exact Nat.zero_le _) (bel_trans HB1.out b2)
  · obtain ⟨hv, -, hc1, hc2, hgb⟩ := ho.vals
    have hgw : w.heap.size + 1 ≤ g := by have : (w.alloc (.cells #[.pointer (some ⟨Fb, 0, none⟩)] 52)).heap.size ≤ g := hgb; simpa using this
    have KD := ints_DeleteFunc (c := c1) (G := 142) #[.pointer (some ⟨w.heap.size, 0, none⟩)] (leafQ N S.up) (ints L) hv hc1 hc2 (fun args w => by simp [go_sem]) (fun X hX i hi => by
      rw [ints_len] at hi
      have e2 : (ints L).getD i 0 = ((L[i] : Nat) : Int) := by simp [ints, List.getD, hi]
      rw [e2]
      have hs1 := HB1.out.size
      have hs2 := hv.1
      have hs3 := hX.size
      refine walk_Leaves1 (w0 := w0) (own := own) (Fb := Fb) (S := S) (N := N) L[i] hO rel ?_ (HIN.out _ (List.getElem_mem _)) ((hX.cell (p := ⟨w.heap.size, 0, none⟩) (by dsimp only; omega)).trans cp)
      exact HF.out.of_own (fun k hk => by have := (HF.out.fresh k hk).2; exact (hX.block k (by omega)).trans (HB1.out.block k this)) (by omega) (HF.out.below.trans ((HB1.out.trans (hX.mono (by omega))).mono HF.out.below.size)))
    rw [HE.out _ (ints_len L)] at KD
    replace KD := Lib.hid KD
    obtain ⟨ln, hln⟩ : ∃ ln, (ints L).length = ln := ⟨_, rfl⟩
    rw [hln] at KD ⊢
    have HS := Lib.hid hv.1
    clear ho hb cp KP hv hc1 hc2 hgb hln
    go_wp2_with fail
    refine KD.out.mono ?_
    rintro e w2 ⟨c2, rfl, i2, b2⟩
    have s1 := HB1.out.size
    have hBW : Hid (Below w.heap.size w w2) := Lib.hid (HB1.out.trans (b2.mono (by omega)))
    have I2 := Lib.hid i2
    clear i2 b2
    go_wp2_with fail
    go_ret
    exact ⟨_, _, _, rfl, ⟨I2.out, fun h0 => ⟨g, 0, rfl, by omega⟩⟩, hBW.out⟩
end Go.Proofs.Ytdhcmnbajkpjiaa
/-
  Layer 38 (walk): the reference's Level and Leaves.
-/
namespace Go.Proofs.Ytdhcmnbajkpjiaa
open Go.RowKit
open Go.Maps
set_option linter.unusedVariables false
set_option linter.unusedSimpArgs false
attribute [local go_sem] drewN_alloc drewN_setCell

variable {w0 w w' : World} {P : Nat → Prop} {V : Value} {n : Nat} {g : List Int} {O cl : List Nat} {fr : Nat} {N : List Nat} {up : List Int}
theorem own_named2 {B : Nat} {v : Value} {l : List Nat} {k : Nat} (h : OwnI B w v (ints l)) (hk : l.length = k) : ∃ A c, v = .slice A k c ∧ IntsAt w A k (ints l) ∧ k ≤ c ∧ c ≤ 9223372036854775807 := by
  obtain ⟨A, c, e, h1, h2, h3⟩ := h.ints
  rw [ints_len, hk] at e h1 h2
  exact ⟨A, c, e, h1, h2, h3⟩
theorem VAt.of_ints {A : Option Addr} {m c : Nat} {xs : List Int} (h : IntsAt w A m xs) (hc : m ≤ c) (hm : c ≤ 9223372036854775807) : VAt (fun _ => True) w A m c (cellsI xs) :=
  ⟨by simp [cellsI, h.1], hc, hm, fun h0 => by
    obtain ⟨b, off, e, hb, hx⟩ := h.2.2 h0
    refine ⟨b, off, e, trivial, hb, fun i u hu => ?_⟩
    have hi : i < xs.length := by
      rcases Nat.lt_or_ge i xs.length with h1 | h1
      · exact h1
      · rw [List.getElem?_eq_none (by simpa [cellsI] using h1)] at hu; cases hu
    rw [hx i (by have := h.1; omega)]
    simp [cellsI, hi] at hu
    rw [← hu]
    simp [List.getD, hi]⟩
def RLevRel (W0 : World) (N : List Nat) (up : List Int) (all : List Nat) (v r : Value) (wr : World) : Prop :=
  ∃ (out row : List Nat) (A : Option Addr) (c : Nat), r = .slice A row.length c ∧ OwnI W0.heap.size wr v (ints out) ∧ VAt (fun b => v.ownBlock ≠ some b) wr A row.length c (cellsI (ints row)) ∧ out ++ PW.que (childW N up) (rkW N) row = all ∧ (∀ z ∈ row, z ∈ N) ∧ Below W0.heap.size W0 wr
def RInnRel (W0 : World) (N : List Nat) (up : List Int) (row : List Nat) (v i : Value) (wr : World) : Prop :=
  ∃ k : Nat, k ≤ row.length ∧ i = .int .i64 (k : Nat) ∧ OwnI W0.heap.size wr v (ints ((row.take k).flatMap (childW N up))) ∧ Below W0.heap.size W0 wr
theorem flat_take (f : Nat → List Nat) (l : List Nat) (k : Nat) : ((l.take k).flatMap f).length ≤ (l.flatMap f).length := by
  have : l.flatMap f = (l.take k).flatMap f ++ (l.drop k).flatMap f := by rw [← List.flatMap_append, List.take_append_drop]
  rw [this, List.length_append]; omega
set_option maxRecDepth 100000 in
set_option maxHeartbeats 16000000 in
theorem ref38_Level (x : Int) (hO : Ord N up) (hN : N.length ≤ 4096) (h : RefF P w V n g O cl fr N up) : Calls Try.prog 86 #[V, .int .i64 x] w (GivesInts w (ints (levW N up x))) := by
  have hh := h
  obtain ⟨Ao, co, Ag, cg, Ac, cc, An, cn, Ap, cp, rfl, h1, h2, h3⟩ := h
  obtain ⟨m, hml⟩ : ∃ m, cl.length = m := ⟨_, rfl⟩
  rw [hml] at hh ⊢
  obtain ⟨w0, hw0⟩ : ∃ w0, w.alloc (.cells #[.slice Ao n co, .slice Ag n cg, .slice Ac m cc, .int .i64 (fr : Int), .slice An N.length cn, .slice Ap N.length cp] 58) = w0 := ⟨_, rfl⟩
  have r0 : RowAt w0 w.heap.size 58 [.slice Ao n co, .slice Ag n cg, .slice Ac m cc, .int .i64 (fr : Int), .slice An N.length cn, .slice Ap N.length cp] := by rw [← hw0]; exact RowAt.new w 58 _
  have b0 : Below w.heap.size w w0 := by rw [← hw0]; exact (by repeat (first | exact Below.refl _ _ | assumption | refine bel_drew ?_ | refine bel_drewN ?_ _ | refine bel_alloc ?_ _ | refine bel_set ?_ (by first | (dsimp only; omega) | (simp; done) | (simp; omega)) _ | refine bel_trans ?_ (by assumption)))
  have R0 := Lib.hid r0
  have B0 := Lib.hid b0
  have HW0 := Lib.hid hw0
  have HH := Lib.hid (hh.keep b0)
  clear h1 h2 h3 hml b0 hh hw0 r0
  have hal : (levW N up x).length ≤ 4096 := by rw [levW_len hO]; have := preW_len hO x; omega
  have hll := preW_len hO x
  have HIN0 : Hid (∀ z ∈ (preW N up x).take 1, z ∈ N) := Lib.hid (fun z hz => by
    have hz := List.mem_of_mem_take hz
    by_cases hx : 0 ≤ x ∧ x.toNat ∈ N
    · rw [preW_yes hx] at hz; exact PW.pre_in hO.is _ hx.2 z hz
    · rw [preW_no hx] at hz; simp at hz)
  have HE0 : Hid ([] ++ PW.que (childW N up) (rkW N) ((preW N up x).take 1) = levW N up x) := Lib.hid (by
    by_cases hx : 0 ≤ x ∧ x.toNat ∈ N
    · obtain ⟨p, rfl⟩ : ∃ p : Nat, x = (p : Int) := ⟨x.toNat, by omega⟩
      have hp : p ∈ N := by simpa using hx.2
      rw [levW_yes hp, preW_yes hx, PW.pre_eq hO.is.hk]; simp
    · rw [levW_no hx, preW_no hx]; rfl)
  have KP := Lib.hid (fun W (hW : Below w0.heap.size w0 W) => ref38_PreO x hO hN (HH.out.keep hW))
  obtain ⟨all, hall⟩ : ∃ all, levW N up x = all := ⟨_, rfl⟩
  obtain ⟨L, hL⟩ : ∃ L, preW N up x = L := ⟨_, rfl⟩
  obtain ⟨ln, hln⟩ : ∃ ln, L.length = ln := ⟨_, rfl⟩
  rw [hall] at hal HE0 ⊢
  rw [hL] at HIN0 HE0 KP hll
  have HLN := Lib.hid hln
  obtain ⟨m1, hm1⟩ : ∃ m1, min 1 ln = m1 := ⟨_, rfl⟩
  have HM1 : Hid ((L.take 1).length = m1) := Lib.hid (by rw [List.length_take, hln]; exact hm1)
  have HM2 : Hid ((ints L).take m1 = ints (L.take 1)) := Lib.hid (by rw [← hm1, ← hln]; cases L <;> simp [ints])
  have hln4 : ln ≤ 4096 := by omega
  have mm : (if (ln : Int) < 1 then (ln : Int) else 1) = (m1 : Int) := by rw [← hm1]; split <;> omega
  have m1c : m1 ≤ ln := by omega
  have c0 : w0.cell? ⟨w.heap.size, 0, none⟩ = some (.slice Ao n co) := by rw [R0.out.cell]; rfl
  have c1 : w0.cell? ⟨w.heap.size, 1, none⟩ = some (.slice Ag n cg) := by rw [R0.out.cell]; rfl
  have c2 : w0.cell? ⟨w.heap.size, 2, none⟩ = some (.slice Ac m cc) := by rw [R0.out.cell]; rfl
  have c3 : w0.cell? ⟨w.heap.size, 3, none⟩ = some (.int .i64 (fr : Int)) := by rw [R0.out.cell]; rfl
  have c4 : w0.cell? ⟨w.heap.size, 4, none⟩ = some (.slice An N.length cn) := by rw [R0.out.cell]; rfl
  have c5 : w0.cell? ⟨w.heap.size, 5, none⟩ = some (.slice Ap N.length cp) := by rw [R0.out.cell]; rfl
  clear hall hL hln hll hm1
  go_enter Try.func86, Try.ntmps86
  go_upto_region 1 with (fail)
  rw [HW0.out]
  go_upto_region 2 with (fail)
  obtain ⟨w1, rfl⟩ : ∃ w1, w1 = w0 := ⟨_, rfl⟩
  have R0' := R0.out
  have hS2 : Hid (∀ W : World, Below w1.heap.size w1 W → (fun W : World => W.cell? ⟨w.heap.size, 0, none⟩ = some (.slice Ao n co) ∧ W.cell? ⟨w.heap.size, 1, none⟩ = some (.slice Ag n cg) ∧ W.cell? ⟨w.heap.size, 2, none⟩ = some (.slice Ac m cc) ∧ W.cell? ⟨w.heap.size, 3, none⟩ = some (.int .i64 (fr : Int)) ∧ W.cell? ⟨w.heap.size, 4, none⟩ = some (.slice An N.length cn) ∧ W.cell? ⟨w.heap.size, 5, none⟩ = some (.slice Ap N.length cp)) W) := Lib.hid (fun W hW => ⟨(hW.cell (p := ⟨w.heap.size, 0, none⟩) R0'.lt).trans ((R0'.cell 0).trans rfl), (hW.cell (p := ⟨w.heap.size, 1, none⟩) R0'.lt).trans ((R0'.cell 1).trans rfl), (hW.cell (p := ⟨w.heap.size, 2, none⟩) R0'.lt).trans ((R0'.cell 2).trans rfl), (hW.cell (p := ⟨w.heap.size, 3, none⟩) R0'.lt).trans ((R0'.cell 3).trans rfl), (hW.cell (p := ⟨w.heap.size, 4, none⟩) R0'.lt).trans ((R0'.cell 4).trans rfl), (hW.cell (p := ⟨w.heap.size, 5, none⟩) R0'.lt).trans ((R0'.cell 5).trans rfl)⟩)
  clear c0 c1 c2 c3 c4 c5 R0'
  refine wp_region_held_drew (S := (fun W : World => W.cell? ⟨w.heap.size, 0, none⟩ = some (.slice Ao n co) ∧ W.cell? ⟨w.heap.size, 1, none⟩ = some (.slice Ag n cg) ∧ W.cell? ⟨w.heap.size, 2, none⟩ = some (.slice Ac m cc) ∧ W.cell? ⟨w.heap.size, 3, none⟩ = some (.int .i64 (fr : Int)) ∧ W.cell? ⟨w.heap.size, 4, none⟩ = some (.slice An N.length cn) ∧ W.cell? ⟨w.heap.size, 5, none⟩ = some (.slice Ap N.length cp))) (by kernel_rfl) ?_ (fun hHeld => ?_)
  focus ((try dsimp only); first | exact q | exact hS2.out _ (by repeat (first | exact Below.refl _ _ | assumption | refine bel_drew ?_ | refine bel_drewN ?_ _ | refine bel_alloc ?_ _ | refine bel_trans ?_ (by assumption))))
  refine tk_yes 0 (v := ?_) rfl (by kernel_rfl) (by kernel_rfl) (by kernel_rfl) (fun _ _ _ h => h) (by kernel_rfl) (by assumption) ?_ ?_; rotate_left; (focus (intro w hSw; (try dsimp only at hSw); go_simp; (first | done | (with_reducible rfl)))); (try simp only [Act.put, List.setIfInBounds_toArray, List.set_cons_zero, List.set_cons_succ])
  refine tk_yes 1 (v := ?_) rfl (by kernel_rfl) (by kernel_rfl) (by kernel_rfl) (fun _ _ _ h => h) (by kernel_rfl) (by assumption) ?_ ?_; rotate_left; (focus (intro w hSw; (try dsimp only at hSw); go_simp; (first | done | (with_reducible rfl)))); (try simp only [Act.put, List.setIfInBounds_toArray, List.set_cons_zero, List.set_cons_succ])
  refine tk_yes 3 (v := ?_) rfl (by kernel_rfl) (by kernel_rfl) (by kernel_rfl) (fun _ _ _ h => h) (by kernel_rfl) (by assumption) ?_ ?_; rotate_left; (focus (intro w hSw; (try dsimp only at hSw); go_simp; (first | done | (with_reducible rfl)))); (try simp only [Act.put, List.setIfInBounds_toArray, List.set_cons_zero, List.set_cons_succ])
  refine tk_yes 4 (v := ?_) rfl (by kernel_rfl) (by kernel_rfl) (by kernel_rfl) (fun _ _ _ h => h) (by kernel_rfl) (by assumption) ?_ ?_; rotate_left; (focus (intro w hSw; (try dsimp only at hSw); go_simp; (first | done | (with_reducible rfl)))); (try simp only [Act.put, List.setIfInBounds_toArray, List.set_cons_zero, List.set_cons_succ])
  refine tk_call 2 rfl (by kernel_rfl) (by kernel_rfl) (fun KW hKW => ?_); go_simp; go_at_call 73; refine (KP.out _ (by repeat (first | exact Below.refl _ _ | assumption | refine bel_drew ?_ | refine bel_drewN ?_ _ | refine bel_alloc ?_ _ | refine bel_trans ?_ (by assumption)))).mono ?_; rintro e u2 ⟨v2, rfl, o2, hb2⟩; obtain ⟨A2, c2, rfl, i2, cc2, cm2⟩ := own_named2 o2 HLN.out; have B2 := bel_to (W0 := w1) (by repeat (first | exact Below.refl _ _ | assumption | refine bel_drew ?_ | refine bel_drewN ?_ _ | refine bel_alloc ?_ _ | refine bel_trans ?_ (by assumption))) hb2; have I2 := Lib.hid i2; have C2 := Lib.hid (And.intro cc2 cm2); have q := hS2.out _ B2; clear o2 i2 cc2 cm2; refine hKW.out _ _ ?_ (fun hHeld => ?_); (focus ((try dsimp only); first | exact q | exact hS2.out _ (by repeat (first | exact Below.refl _ _ | assumption | refine bel_drew ?_ | refine bel_drewN ?_ _ | refine bel_alloc ?_ _ | refine bel_trans ?_ (by assumption))))); clear hKW KW; (try simp only [Act.put, List.setIfInBounds_toArray, List.set_cons_zero, List.set_cons_succ])
  refine tk_call 5 rfl (by kernel_rfl) (by kernel_rfl) (fun KW hKW => ?_); go_simp; go_at_call 73; refine (KP.out _ (by repeat (first | exact Below.refl _ _ | assumption | refine bel_drew ?_ | refine bel_drewN ?_ _ | refine bel_alloc ?_ _ | refine bel_trans ?_ (by assumption)))).mono ?_; rintro e u5 ⟨v5, rfl, o5, hb5⟩; obtain ⟨A5, c5, rfl, i5, cc5, cm5⟩ := own_named2 o5 HLN.out; have B5 := bel_to (W0 := w1) (by repeat (first | exact Below.refl _ _ | assumption | refine bel_drew ?_ | refine bel_drewN ?_ _ | refine bel_alloc ?_ _ | refine bel_trans ?_ (by assumption))) hb5; have I5 := Lib.hid i5; have C5 := Lib.hid (And.intro cc5 cm5); have q := hS2.out _ B5; clear o5 i5 cc5 cm5; refine hKW.out _ _ ?_ (fun hHeld => ?_); (focus ((try dsimp only); first | exact q | exact hS2.out _ (by repeat (first | exact Below.refl _ _ | assumption | refine bel_drew ?_ | refine bel_drewN ?_ _ | refine bel_alloc ?_ _ | refine bel_trans ?_ (by assumption))))); clear hKW KW; (try simp only [Act.put, List.setIfInBounds_toArray, List.set_cons_zero, List.set_cons_succ])
  refine tk_yes 6 (v := ?_) rfl (by kernel_rfl) (by kernel_rfl) (by kernel_rfl) (fun _ _ _ h => h) (by kernel_rfl) (by assumption) ?_ ?_; rotate_left; (focus (intro w hSw; (try dsimp only at hSw); go_simp; (first | done | (with_reducible rfl)))); (try simp only [Act.put, List.setIfInBounds_toArray, List.set_cons_zero, List.set_cons_succ])
  refine tk_yes 7 (v := ?_) rfl (by kernel_rfl) (by kernel_rfl) (by kernel_rfl) (fun _ _ _ h => h) (by kernel_rfl) (by assumption) ?_ ?_; rotate_left; (focus (intro w hSw; (try dsimp only at hSw); go_simp; (first | done | (with_reducible rfl)))); (try simp only [Act.put, List.setIfInBounds_toArray, List.set_cons_zero, List.set_cons_succ])
  refine tk_it 8 (.slice (fromA A2 c2 0) m1 c2) rfl (by kernel_rfl) (by kernel_rfl) (by kernel_rfl) (fun _ _ _ h => h) (by kernel_rfl) (by assumption) (fun w => exec_to rfl rfl rfl (by have := C2.out.1; omega)) ?_; (try simp only [Act.put, List.setIfInBounds_toArray, List.set_cons_zero, List.set_cons_succ])
  refine tk_yes 9 (v := ?_) rfl (by kernel_rfl) (by kernel_rfl) (by kernel_rfl) (fun _ _ _ h => h) (by kernel_rfl) (by assumption) ?_ ?_; rotate_left; (focus (intro w hSw; (try dsimp only at hSw); go_simp; (first | done | (with_reducible rfl)))); (try simp only [Act.put, List.setIfInBounds_toArray, List.set_cons_zero, List.set_cons_succ])
  refine wpAnyH_done (by kernel_rfl) ?_ _
  have hI := (I2.out.keep hb5).upto C2.out.1 m1c
  rw [HM2.out] at hI
  obtain ⟨A6, hA6⟩ : ∃ A6, fromA A2 c2 0 = A6 := ⟨_, rfl⟩
  obtain ⟨row0, hrow0⟩ : ∃ row0, L.take 1 = row0 := ⟨_, rfl⟩
  have hm := HM1.out
  rw [hrow0] at hm hI HE0 HIN0
  subst hm
  rw [hA6] at hI ⊢
  have HREL : Hid (RLevRel u5 N up all (.slice none 0 0) (.slice A6 row0.length c2) u5) := Lib.hid ⟨[], row0, A6, c2, rfl, OwnI.nil _ _, (VAt.of_ints hI (Nat.le_trans m1c C2.out.1) C2.out.2).mono (fun b _ _ e => by cases e), HE0.out, HIN0.out, Below.refl _ _⟩
  have R5 := Lib.hid (R0.out.keep B5)
  have HH5 := Lib.hid (HH.out.keep B5)
  have BB5 := Lib.hid (bel_trans B0.out B5)
  obtain ⟨w5, rfl⟩ : ∃ w5, w5 = u5 := ⟨_, rfl⟩
  clear hI hA6 hrow0 HE0 HIN0 HM1 HM2 mm m1c B2 B5 hb2 hb5 I2 C2 I5 C5 q hS2 R0 HH KP
  go_wp2_with fail
  go_loopw [5, 6, 7, 8] (fun v r _ _ wr => RLevRel w5 N up all v r wr) (fun v _ _ _ _ => all.length - vlen v)
  case atStart => exact HREL.out
  case round =>
    clear HREL
    obtain ⟨out, row, A, c, rfl, ho, hv, he, hin, hb⟩ := hrel
    obtain ⟨wo, rfl⟩ : ∃ wo, wo = wr := ⟨_, rfl⟩
    obtain ⟨Av, cv, hv9⟩ := own_shape ho
    subst hv9
    have HO1 := Lib.hid ho
    have HV := Lib.hid hv
    have HE := Lib.hid he
    have HIN := Lib.hid hin
    have HB := Lib.hid hb
    have hlen := congrArg List.length he
    rw [List.length_append] at hlen
    have hq := que_ge (N := N) (up := up) hO.is.hk row
    obtain ⟨ol, hol⟩ : ∃ ol, (ints out).length = ol := ⟨_, rfl⟩
    obtain ⟨rl, hrl⟩ : ∃ rl, row.length = rl := ⟨_, rfl⟩
    have hol1 : out.length = ol := by rw [← hol, ints_len]
    rw [hol] at HO1 HV ⊢
    rw [hrl] at HV ⊢
    have HOL := Lib.hid hol
    have HRL := Lib.hid hrl
    clear ho hv he hin hb hol
    by_cases h0 : rl = 0
    · have hr0 : row = [] := List.eq_nil_of_length_eq_zero (hrl.trans h0)
      have HE2 : Hid (out = all) := Lib.hid (by rw [← HE.out, hr0, PW.que_nil, List.append_nil])
      have g0 : ¬ (0 : Int) < (rl : Int) := by omega
      have hol3 : ol ≤ 4096 := by rw [← hol1, HE2.out]; exact hal
      have HOA : Hid (OwnI w5.heap.size wo (.slice Av ol cv) (ints all)) := Lib.hid (by rw [← HE2.out]; exact HO1.out)
      have HAL : Hid ((ints all).length ≤ 9223372036854775807) := Lib.hid (by rw [ints_len]; omega)
      clear hlen hq hr0 hrl hol1 h0
      go_wp2_with fail
      go_ret
      exact own_gives (HOA.out.mono BB5.out.size) HAL.out (bel_trans BB5.out HB.out)
    · have g0 : (0 : Int) < (rl : Int) := by omega
      have HE2 : Hid ((out ++ row) ++ PW.que (childW N up) (rkW N) (row.flatMap (childW N up)) = all) := Lib.hid (by rw [← HE.out, PW.que_rows hO.is.hk row, List.append_assoc])
      have HT2 : Hid (ints out ++ ints row = ints (out ++ row)) := Lib.hid (by rw [ints_app])
      have HFL : Hid ((row.flatMap (childW N up)).length ≤ 4096) := Lib.hid (by
        have h1 := que_ge (N := N) (up := up) hO.is.hk (row.flatMap (childW N up))
        have h2 := congrArg List.length HE2.out
        rw [List.length_append] at h2; omega)
      have HIN2 : Hid (∀ z ∈ row.flatMap (childW N up), z ∈ N) := Lib.hid (fun z hz => by
        obtain ⟨y, _, h2⟩ := List.mem_flatMap.1 hz
        exact ((hO.is.kp y z).1 h2).1)
      have holl : ol + rl ≤ all.length := by have h2 := congrArg List.length HE2.out; rw [List.length_append, List.length_append, hol1, hrl] at h2; omega
      clear hlen hq hrl hol1
      go_upto_region 5 with (at_builtin; refine app_listY rfl (.tmp 21) (.tmp 22) rfl w5.heap.size _ (ints out) rfl HO1.out A rl c (ints row) rfl HV.out.src (by rw [HOL.out]; omega) HB.out.size ?_; intro V9 W4 ho9 hg9 hb9; rw [HT2.out] at ho9; have HO9 := Lib.hid ho9; have HG9 := Lib.hid hg9; have HS9 := Lib.hid hb9; clear ho9 hg9 hb9)
      have B4 : Hid (Below w5.heap.size w5 W4) := Lib.hid (HB.out.grown HG9.out HB.out.size (fun k e => (HO1.out.ltB k e).1))
      have HV4 : Hid (VAt (fun b => V9.ownBlock ≠ some b) W4 A rl c (cellsI (ints row))) := Lib.hid (by
        have v1 := HV.out.mono (P' := fun b => (Value.slice Av ol cv).ownBlock ≠ some b ∧ V9.ownBlock ≠ some b) (fun b hb hP => ⟨hP, fun e => by
          rcases HS9.out with h1 | h1
          · exact hP (h1 ▸ e)
          · rw [h1] at e; have e2 := Option.some.inj e; omega⟩)
        exact (v1.blocks HG9.out.size (fun b hb hP => HG9.out.block b hb (fun e => hP.1 e.symm))).mono (fun b _ hP => hP.2))
      obtain ⟨A9, c9, h9⟩ := own_shape HO9.out
      have HV9 : Hid (vlen V9 = ol + rl) := Lib.hid (by rw [h9]; show (ints (out ++ row)).length = _; rw [← HT2.out, List.length_append, HOL.out, ints_len, HRL.out])
      have R4 := Lib.hid (R5.out.keep B4.out)
      have HH4 := Lib.hid (HH5.out.keep B4.out)
      have BB4 := Lib.hid (bel_trans BB5.out B4.out)
      clear h9 HS9 HG9 HO1 HV
      go_wp2_with fail
      go_loopw [7, 8] (fun nv i wr => RInnRel W4 N up row nv i wr) (fun _ i _ => rl - (intOf i).toNat)
      case atStart => exact ⟨0, Nat.zero_le _, rfl, OwnI.nil _ _, Below.refl _ _⟩
      case round =>
        obtain ⟨k, hk, rfl, hn, hb2⟩ := hrel
        rw [HRL.out] at hk
        obtain ⟨Ax, cx, hvn⟩ := own_shape hn
        subst hvn
        have HN := Lib.hid hn
        have HB2 := Lib.hid hb2
        have hfl := flat_take (childW N up) row k
        obtain ⟨nl, hnl⟩ : ∃ nl, (ints ((row.take k).flatMap (childW N up))).length = nl := ⟨_, rfl⟩
        rw [hnl] at HN ⊢
        have HNL := Lib.hid hnl
        have hnl4 : nl ≤ 4096 := by rw [ints_len] at hnl; have := HFL.out; omega
        have hk0 : (0 : Int) ≤ (k : Int) := by omega
        clear hn hnl hfl
        by_cases hlt : k < rl
        · have hltI : (k : Int) < (rl : Int) := by omega
          obtain ⟨q, hq⟩ : ∃ q, row[k]? = some q := ⟨_, List.getElem?_eq_getElem (by rw [HRL.out]; exact hlt)⟩
          obtain ⟨-, b, off, rfl, hbl, x0⟩ := ints_at HV4.out.ints hq
          have R4' := R4.out
          have hS9 : Hid (∀ W : World, Below W4.heap.size W4 W → (fun W : World => W.cell? ⟨w.heap.size, 0, none⟩ = some (.slice Ao n co) ∧ W.cell? ⟨w.heap.size, 1, none⟩ = some (.slice Ag n cg) ∧ W.cell? ⟨w.heap.size, 2, none⟩ = some (.slice Ac m cc) ∧ W.cell? ⟨w.heap.size, 3, none⟩ = some (.int .i64 (fr : Int)) ∧ W.cell? ⟨w.heap.size, 4, none⟩ = some (.slice An N.length cn) ∧ W.cell? ⟨w.heap.size, 5, none⟩ = some (.slice Ap N.length cp) ∧ W.cell? ⟨b, off + k, none⟩ = some (.int .i64 (q : Int))) W) := Lib.hid (fun W hW => ⟨(hW.cell (p := ⟨w.heap.size, 0, none⟩) R4'.lt).trans ((R4'.cell 0).trans rfl), (hW.cell (p := ⟨w.heap.size, 1, none⟩) R4'.lt).trans ((R4'.cell 1).trans rfl), (hW.cell (p := ⟨w.heap.size, 2, none⟩) R4'.lt).trans ((R4'.cell 2).trans rfl), (hW.cell (p := ⟨w.heap.size, 3, none⟩) R4'.lt).trans ((R4'.cell 3).trans rfl), (hW.cell (p := ⟨w.heap.size, 4, none⟩) R4'.lt).trans ((R4'.cell 4).trans rfl), (hW.cell (p := ⟨w.heap.size, 5, none⟩) R4'.lt).trans ((R4'.cell 5).trans rfl), (hW.cell (p := ⟨b, off + k, none⟩) hbl).trans x0⟩)
          have KC : Hid (∀ W, Below W4.heap.size W4 W → Calls Try.prog 47 #[.agg #[.slice Ao n co, .slice Ag n cg, .slice Ac m cc, .int .i64 (fr : Int), .slice An N.length cn, .slice Ap N.length cp], .int .i64 (q : Int)] W (GivesInts W (ints (childW N up q)))) := Lib.hid (fun W hW => ref37_Children (q : Int) (by omega) (HH4.out.keep hW))
          have hkl : (childW N up q).length ≤ 4096 := Nat.le_trans (List.length_filter_le _ _) hN
          have HT3 : Hid (ints ((row.take k).flatMap (childW N up)) ++ ints (childW N up q) = ints ((row.take (k + 1)).flatMap (childW N up))) := Lib.hid (by rw [List.take_add_one, hq, ← ints_app]; simp)
          have wk : IntKind.i64.wrap ((k : Int) + 1) = ((k + 1 : Nat) : Int) := by rw [IntKind.wrap_i64]; have := HV4.out.2.1; have := HV4.out.2.2.1; omega
          clear R4' x0 hbl hq
          go_upto_region 9 with (fail)
          refine wp_region_held_drew (S := (fun W : World => W.cell? ⟨w.heap.size, 0, none⟩ = some (.slice Ao n co) ∧ W.cell? ⟨w.heap.size, 1, none⟩ = some (.slice Ag n cg) ∧ W.cell? ⟨w.heap.size, 2, none⟩ = some (.slice Ac m cc) ∧ W.cell? ⟨w.heap.size, 3, none⟩ = some (.int .i64 (fr : Int)) ∧ W.cell? ⟨w.heap.size, 4, none⟩ = some (.slice An N.length cn) ∧ W.cell? ⟨w.heap.size, 5, none⟩ = some (.slice Ap N.length cp) ∧ W.cell? ⟨b, off + k, none⟩ = some (.int .i64 (q : Int)))) (by kernel_rfl) ?_ (fun hHeld => ?_)
          focus ((try dsimp only); first | exact q9 | exact hS9.out _ (by repeat (first | exact Below.refl _ _ | assumption | refine bel_drew ?_ | refine bel_drewN ?_ _ | refine bel_alloc ?_ _ | refine bel_trans ?_ (by assumption))))
          refine tk_yes 0 (v := ?_) rfl (by kernel_rfl) (by kernel_rfl) (by kernel_rfl) (fun _ _ _ h => h) (by kernel_rfl) (by assumption) ?_ ?_; rotate_left; (focus (intro w hSw; (try dsimp only at hSw); go_simp; (first | done | (with_reducible rfl)))); (try simp only [Act.put, List.setIfInBounds_toArray, List.set_cons_zero, List.set_cons_succ])
          refine tk_yes 1 (v := ?_) rfl (by kernel_rfl) (by kernel_rfl) (by kernel_rfl) (fun _ _ _ h => h) (by kernel_rfl) (by assumption) ?_ ?_; rotate_left; (focus (intro w hSw; (try dsimp only at hSw); go_simp; (first | done | (with_reducible rfl)))); (try simp only [Act.put, List.setIfInBounds_toArray, List.set_cons_zero, List.set_cons_succ])
          refine tk_yes 2 (v := ?_) rfl (by kernel_rfl) (by kernel_rfl) (by kernel_rfl) (fun _ _ _ h => h) (by kernel_rfl) (by assumption) ?_ ?_; rotate_left; (focus (intro w hSw; (try dsimp only at hSw); go_simp; (first | done | (with_reducible rfl)))); (try simp only [Act.put, List.setIfInBounds_toArray, List.set_cons_zero, List.set_cons_succ])
          refine tk_yes 3 (v := ?_) rfl (by kernel_rfl) (by kernel_rfl) (by kernel_rfl) (fun _ _ _ h => h) (by kernel_rfl) (by assumption) ?_ ?_; rotate_left; (focus (intro w hSw; (try dsimp only at hSw); go_simp; (first | done | (with_reducible rfl)))); (try simp only [Act.put, List.setIfInBounds_toArray, List.set_cons_zero, List.set_cons_succ])
          refine tk_yes 4 (v := ?_) rfl (by kernel_rfl) (by kernel_rfl) (by kernel_rfl) (fun _ _ _ h => h) (by kernel_rfl) (by assumption) ?_ ?_; rotate_left; (focus (intro w hSw; (try dsimp only at hSw); go_simp; (first | done | (with_reducible rfl)))); (try simp only [Act.put, List.setIfInBounds_toArray, List.set_cons_zero, List.set_cons_succ])
          refine tk_yes 5 (v := ?_) rfl (by kernel_rfl) (by kernel_rfl) (by kernel_rfl) (fun _ _ _ h => h) (by kernel_rfl) (by assumption) ?_ ?_; rotate_left; (focus (intro w hSw; (try dsimp only at hSw); go_simp; (first | done | (with_reducible rfl)))); (try simp only [Act.put, List.setIfInBounds_toArray, List.set_cons_zero, List.set_cons_succ])
          refine tk_call 6 rfl (by kernel_rfl) (by kernel_rfl) (fun KW hKW => ?_); go_simp; go_at_call 47; refine (KC.out _ (by repeat (first | exact Below.refl _ _ | assumption | refine bel_drew ?_ | refine bel_drewN ?_ _ | refine bel_alloc ?_ _ | refine bel_trans ?_ (by assumption)))).mono ?_; rintro e u6 ⟨A6, n6, c6, rfl, i6, hb6⟩; have B6 := bel_to (W0 := W4) (by repeat (first | exact Below.refl _ _ | assumption | refine bel_drew ?_ | refine bel_drewN ?_ _ | refine bel_alloc ?_ _ | refine bel_trans ?_ (by assumption))) hb6; have I6 := Lib.hid i6.1; have HN6 := Lib.hid (HN.out.keep (by exact bel_to (W0 := wr) (by repeat (first | exact Below.refl _ _ | assumption | refine bel_drew ?_ | refine bel_drewN ?_ _ | refine bel_alloc ?_ _ | refine bel_trans ?_ (by assumption))) hb6)); have q9 := hS9.out _ B6; clear i6 hb6; refine hKW.out _ _ ?_ (fun hHeld => ?_); (focus ((try dsimp only); first | exact q9 | exact hS9.out _ (by repeat (first | exact Below.refl _ _ | assumption | refine bel_drew ?_ | refine bel_drewN ?_ _ | refine bel_alloc ?_ _ | refine bel_trans ?_ (by assumption))))); clear hKW KW; (try simp only [Act.put, List.setIfInBounds_toArray, List.set_cons_zero, List.set_cons_succ])
          refine tk_call 7 rfl (by kernel_rfl) (by kernel_rfl) (fun KW hKW => ?_); refine app_operI2 (.tmp 30) (.tmp 36) rfl W4.heap.size _ (ints ((row.take k).flatMap (childW N up))) rfl HN6.out A6 n6 c6 (ints (childW N up q)) rfl I6.out.srcI (by have e := I6.out.1; rw [ints_len] at e; rw [HNL.out]; omega) B6.size ?_; intro v7 w7 ho7 hb7 hk7 hor7 hs7; rw [HT3.out] at ho7; have B7 := B6.trans hb7; have HO7 := Lib.hid ho7; have q9 := hS9.out _ B7; clear ho7 hb7 hk7 hor7 hs7; refine hKW.out _ _ ?_ (fun hHeld => ?_); (focus ((try dsimp only); first | exact q9 | exact hS9.out _ (by repeat (first | exact Below.refl _ _ | assumption | refine bel_drew ?_ | refine bel_drewN ?_ _ | refine bel_alloc ?_ _ | refine bel_trans ?_ (by assumption))))); clear hKW KW; (try simp only [Act.put, List.setIfInBounds_toArray, List.set_cons_zero, List.set_cons_succ])
          refine tk_yes 8 (v := ?_) rfl (by kernel_rfl) (by kernel_rfl) (by kernel_rfl) (fun _ _ _ h => h) (by kernel_rfl) (by assumption) ?_ ?_; rotate_left; (focus (intro w hSw; (try dsimp only at hSw); go_simp; (first | done | (with_reducible rfl)))); (try simp only [Act.put, List.setIfInBounds_toArray, List.set_cons_zero, List.set_cons_succ])
          refine wpAnyH_done (by kernel_rfl) ?_ _
          go_wp2_with fail
          go_roundw
          case rel => exact ⟨k + 1, by rw [HRL.out]; omega, rfl, HO7.out, B7⟩
          case measure => simp [intOf]; omega
        · have hkn : k = rl := by omega
          have hltI : ¬ (k : Int) < (rl : Int) := by omega
          have etk : row.take k = row := List.take_of_length_le (by rw [HRL.out]; omega)
          have HNX : Hid (OwnI W4.heap.size wr (.slice Ax nl cx) (ints (row.flatMap (childW N up)))) := Lib.hid (by have := HN.out; rwa [etk] at this)
          have HNV : Hid ((row.flatMap (childW N up)).length = nl) := Lib.hid (by have := HNL.out; rw [etk, ints_len] at this; exact this)
          have HREL2 : Hid (RLevRel w5 N up all V9 (.slice Ax nl cx) wr) := Lib.hid ⟨out ++ row, row.flatMap (childW N up), Ax, cx, by rw [HNV.out], HO9.out.keep hb2, by
            rw [HNV.out]
            refine own_vat (base := W4.heap.size) (t := 3) (by have := HNX.out; unfold OwnI at this; rw [ints_len, HNV.out] at this; exact this) (fun b hb3 e => ?_)
            have := (HO9.out.ltB b e).2
            omega, HE2.out, HIN2.out, bel_trans' B4.out hb2 B4.out.size⟩
          clear etk hkn
          go_wp2_with fail
          go_roundw
          case rel => exact HREL2.out
          case measure => show all.length - vlen V9 < all.length - ol; rw [HV9.out]; omega
def RLfRel (W0 : World) (N : List Nat) (up : List Int) (L : List Nat) (v i : Value) (wr : World) : Prop :=
  ∃ k : Nat, k ≤ L.length ∧ i = .int .i64 (k : Nat) ∧ OwnI W0.heap.size wr v (ints ((L.take k).filter (fun z => decide (childW N up z = [])))) ∧ Below W0.heap.size W0 wr
set_option maxRecDepth 100000 in
set_option maxHeartbeats 16000000 in
theorem ref38_Leaves (x : Int) (hO : Ord N up) (hN : N.length ≤ 4096) (h : RefF P w V n g O cl fr N up) : Calls Try.prog 88 #[V, .int .i64 x] w (GivesInts w (ints (leafW N up x))) := by
  have hh := h
  obtain ⟨Ao, co, Ag, cg, Ac, cc, An, cn, Ap, cp, rfl, h1, h2, h3⟩ := h
  obtain ⟨m, hml⟩ : ∃ m, cl.length = m := ⟨_, rfl⟩
  rw [hml] at hh ⊢
  obtain ⟨w0, hw0⟩ : ∃ w0, w.alloc (.cells #[.slice Ao n co, .slice Ag n cg, .slice Ac m cc, .int .i64 (fr : Int), .slice An N.length cn, .slice Ap N.length cp] 58) = w0 := ⟨_, rfl⟩
  have r0 : RowAt w0 w.heap.size 58 [.slice Ao n co, .slice Ag n cg, .slice Ac m cc, .int .i64 (fr : Int), .slice An N.length cn, .slice Ap N.length cp] := by rw [← hw0]; exact RowAt.new w 58 _
  have b0 : Below w.heap.size w w0 := by rw [← hw0]; exact (by repeat (first | exact Below.refl _ _ | assumption | refine bel_drew ?_ | refine bel_drewN ?_ _ | refine bel_alloc ?_ _ | refine bel_set ?_ (by first | (dsimp only; omega) | (simp; done) | (simp; omega)) _ | refine bel_trans ?_ (by assumption)))
  have R0 := Lib.hid r0
  have B0 := Lib.hid b0
  have HW0 := Lib.hid hw0
  have HH := Lib.hid (hh.keep b0)
  clear h1 h2 h3 hml b0 hh hw0 r0
  have hll := preW_len hO x
  have KP := Lib.hid (ref38_Pre x hO hN HH.out)
  unfold leafW
  obtain ⟨L, hL⟩ : ∃ L, preW N up x = L := ⟨_, rfl⟩
  obtain ⟨ln, hln⟩ : ∃ ln, L.length = ln := ⟨_, rfl⟩
  rw [hL] at KP hll ⊢
  have HLN := Lib.hid hln
  have hln4 : ln ≤ 4096 := by omega
  have c0 : w0.cell? ⟨w.heap.size, 0, none⟩ = some (.slice Ao n co) := by rw [R0.out.cell]; rfl
  have c1 : w0.cell? ⟨w.heap.size, 1, none⟩ = some (.slice Ag n cg) := by rw [R0.out.cell]; rfl
  have c2 : w0.cell? ⟨w.heap.size, 2, none⟩ = some (.slice Ac m cc) := by rw [R0.out.cell]; rfl
  have c3 : w0.cell? ⟨w.heap.size, 3, none⟩ = some (.int .i64 (fr : Int)) := by rw [R0.out.cell]; rfl
  have c4 : w0.cell? ⟨w.heap.size, 4, none⟩ = some (.slice An N.length cn) := by rw [R0.out.cell]; rfl
  have c5 : w0.cell? ⟨w.heap.size, 5, none⟩ = some (.slice Ap N.length cp) := by rw [R0.out.cell]; rfl
  clear hL hln hll
  go_enter Try.func88, Try.ntmps88
  go_upto_region 1 with (fail)
  rw [HW0.out]
  go_wp2_with fail
  refine KP.out.mono ?_
  rintro e w1 ⟨A1, n1, c1', rfl, i1, b1⟩
  have e1 : ln = n1 := by have := i1.1.1; rw [ints_len, HLN.out] at this; exact this
  subst e1
  have R1 := Lib.hid (R0.out.keep b1)
  have HH1 := Lib.hid (HH.out.keep b1)
  have I1 := Lib.hid i1.1
  have B1 := Lib.hid (bel_trans B0.out b1)
  clear KP b1 i1 c0 c1 c2 c3 c4 c5 HH R0
  go_wp2_with fail
  go_loopw [5, 7] (fun v i wr => RLfRel w1 N up L v i wr) (fun _ i _ => ln - (intOf i).toNat)
  case atStart => exact ⟨0, Nat.zero_le _, rfl, OwnI.nil _ _, Below.refl _ _⟩
  case round =>
    obtain ⟨k, hk, rfl, hn, hb2⟩ := hrel
    rw [HLN.out] at hk
    obtain ⟨Ax, cx, hvn⟩ := own_shape hn
    subst hvn
    have HN := Lib.hid hn
    have HB2 := Lib.hid hb2
    have hfl : ((L.take k).filter (fun z => decide (childW N up z = []))).length ≤ ln := by
      refine Nat.le_trans (List.length_filter_le _ _) ?_
      rw [List.length_take, HLN.out]; exact Nat.min_le_right _ _
    obtain ⟨nl, hnl⟩ : ∃ nl, (ints ((L.take k).filter (fun z => decide (childW N up z = [])))).length = nl := ⟨_, rfl⟩
    rw [hnl] at HN ⊢
    have HNL := Lib.hid hnl
    have hnl4 : nl ≤ 4096 := by rw [ints_len] at hnl; omega
    have hk0 : (0 : Int) ≤ (k : Int) := by omega
    clear hn hnl hfl
    by_cases hlt : k < ln
    · have hltI : (k : Int) < (ln : Int) := by omega
      obtain ⟨q, hq⟩ : ∃ q, L[k]? = some q := ⟨_, List.getElem?_eq_getElem (by rw [HLN.out]; exact hlt)⟩
      obtain ⟨-, b, off, rfl, hbl, x0⟩ := ints_at (I1.out.keep hb2) hq
      have R1' := R1.out.keep hb2
      have hS6 : Hid (∀ W : World, Below wr.heap.size wr W → (fun W : World => W.cell? ⟨w.heap.size, 0, none⟩ = some (.slice Ao n co) ∧ W.cell? ⟨w.heap.size, 1, none⟩ = some (.slice Ag n cg) ∧ W.cell? ⟨w.heap.size, 2, none⟩ = some (.slice Ac m cc) ∧ W.cell? ⟨w.heap.size, 3, none⟩ = some (.int .i64 (fr : Int)) ∧ W.cell? ⟨w.heap.size, 4, none⟩ = some (.slice An N.length cn) ∧ W.cell? ⟨w.heap.size, 5, none⟩ = some (.slice Ap N.length cp) ∧ W.cell? ⟨b, off + k, none⟩ = some (.int .i64 (q : Int))) W) := Lib.hid (fun W hW => ⟨(hW.cell (p := ⟨w.heap.size, 0, none⟩) R1'.lt).trans ((R1'.cell 0).trans rfl), (hW.cell (p := ⟨w.heap.size, 1, none⟩) R1'.lt).trans ((R1'.cell 1).trans rfl), (hW.cell (p := ⟨w.heap.size, 2, none⟩) R1'.lt).trans ((R1'.cell 2).trans rfl), (hW.cell (p := ⟨w.heap.size, 3, none⟩) R1'.lt).trans ((R1'.cell 3).trans rfl), (hW.cell (p := ⟨w.heap.size, 4, none⟩) R1'.lt).trans ((R1'.cell 4).trans rfl), (hW.cell (p := ⟨w.heap.size, 5, none⟩) R1'.lt).trans ((R1'.cell 5).trans rfl), (hW.cell (p := ⟨b, off + k, none⟩) hbl).trans x0⟩)
      have KC : Hid (∀ W, Below wr.heap.size wr W → Calls Try.prog 47 #[.agg #[.slice Ao n co, .slice Ag n cg, .slice Ac m cc, .int .i64 (fr : Int), .slice An N.length cn, .slice Ap N.length cp], .int .i64 (q : Int)] W (GivesInts W (ints (childW N up q)))) := Lib.hid (fun W hW => ref37_Children (q : Int) (by omega) (HH1.out.keep (bel_trans HB2.out hW)))
      have wk : IntKind.i64.wrap ((k : Int) + 1) = ((k + 1 : Nat) : Int) := by rw [IntKind.wrap_i64]; omega
      have HTK := Lib.hid (show L.take (k + 1) = L.take k ++ [q] by rw [List.take_add_one, hq]; rfl)
      clear R1' x0 hbl hq
      by_cases hkid : childW N up q = []
      · have HT3 : Hid (ints ((L.take k).filter (fun z => decide (childW N up z = []))) ++ [(q : Int)] = ints ((L.take (k + 1)).filter (fun z => decide (childW N up z = [])))) := Lib.hid (by rw [HTK.out, List.filter_append, ints_app, List.filter_cons, if_pos (by simp [hkid])]; rfl)
        rw [hkid] at KC
        clear hkid
        go_upto_region 6 with (fail)
        refine wp_region_held_drew (S := (fun W : World => W.cell? ⟨w.heap.size, 0, none⟩ = some (.slice Ao n co) ∧ W.cell? ⟨w.heap.size, 1, none⟩ = some (.slice Ag n cg) ∧ W.cell? ⟨w.heap.size, 2, none⟩ = some (.slice Ac m cc) ∧ W.cell? ⟨w.heap.size, 3, none⟩ = some (.int .i64 (fr : Int)) ∧ W.cell? ⟨w.heap.size, 4, none⟩ = some (.slice An N.length cn) ∧ W.cell? ⟨w.heap.size, 5, none⟩ = some (.slice Ap N.length cp) ∧ W.cell? ⟨b, off + k, none⟩ = some (.int .i64 (q : Int)))) (by kernel_rfl) ?_ (fun hHeld => ?_)
        focus ((try dsimp only); first | exact q9 | exact hS6.out _ (by repeat (first | exact Below.refl _ _ | assumption | refine bel_drew ?_ | refine bel_drewN ?_ _ | refine bel_alloc ?_ _ | refine bel_trans ?_ (by assumption))))
        refine tk_yes 0 (v := ?_) rfl (by kernel_rfl) (by kernel_rfl) (by kernel_rfl) (fun _ _ _ h => h) (by kernel_rfl) (by assumption) ?_ ?_; rotate_left; (focus (intro w hSw; (try dsimp only at hSw); go_simp; (first | done | (with_reducible rfl)))); (try simp only [Act.put, List.setIfInBounds_toArray, List.set_cons_zero, List.set_cons_succ])
        refine tk_yes 1 (v := ?_) rfl (by kernel_rfl) (by kernel_rfl) (by kernel_rfl) (fun _ _ _ h => h) (by kernel_rfl) (by assumption) ?_ ?_; rotate_left; (focus (intro w hSw; (try dsimp only at hSw); go_simp; (first | done | (with_reducible rfl)))); (try simp only [Act.put, List.setIfInBounds_toArray, List.set_cons_zero, List.set_cons_succ])
        refine tk_yes 2 (v := ?_) rfl (by kernel_rfl) (by kernel_rfl) (by kernel_rfl) (fun _ _ _ h => h) (by kernel_rfl) (by assumption) ?_ ?_; rotate_left; (focus (intro w hSw; (try dsimp only at hSw); go_simp; (first | done | (with_reducible rfl)))); (try simp only [Act.put, List.setIfInBounds_toArray, List.set_cons_zero, List.set_cons_succ])
        refine tk_yes 3 (v := ?_) rfl (by kernel_rfl) (by kernel_rfl) (by kernel_rfl) (fun _ _ _ h => h) (by kernel_rfl) (by assumption) ?_ ?_; rotate_left; (focus (intro w hSw; (try dsimp only at hSw); go_simp; (first | done | (with_reducible rfl)))); (try simp only [Act.put, List.setIfInBounds_toArray, List.set_cons_zero, List.set_cons_succ])
        refine tk_yes 4 (v := ?_) rfl (by kernel_rfl) (by kernel_rfl) (by kernel_rfl) (fun _ _ _ h => h) (by kernel_rfl) (by assumption) ?_ ?_; rotate_left; (focus (intro w hSw; (try dsimp only at hSw); go_simp; (first | done | (with_reducible rfl)))); (try simp only [Act.put, List.setIfInBounds_toArray, List.set_cons_zero, List.set_cons_succ])
        refine tk_call 5 rfl (by kernel_rfl) (by kernel_rfl) (fun KW hKW => ?_); go_simp; go_at_call 47; refine (KC.out _ (by repeat (first | exact Below.refl _ _ | assumption | refine bel_drew ?_ | refine bel_drewN ?_ _ | refine bel_alloc ?_ _ | refine bel_trans ?_ (by assumption)))).mono ?_; rintro e u5 ⟨A5, n5, c5, rfl, i5, hb5⟩; have en : 0 = n5 := i5.1.1; subst en; have B5 := bel_to (W0 := wr) (by repeat (first | exact Below.refl _ _ | assumption | refine bel_drew ?_ | refine bel_drewN ?_ _ | refine bel_alloc ?_ _ | refine bel_trans ?_ (by assumption))) hb5; have q9 := hS6.out _ B5; clear i5 hb5; refine hKW.out _ _ ?_ (fun hHeld => ?_); (focus ((try dsimp only); first | exact q9 | exact hS6.out _ (by repeat (first | exact Below.refl _ _ | assumption | refine bel_drew ?_ | refine bel_drewN ?_ _ | refine bel_alloc ?_ _ | refine bel_trans ?_ (by assumption))))); clear hKW KW; (try simp only [Act.put, List.setIfInBounds_toArray, List.set_cons_zero, List.set_cons_succ])
        refine tk_yes 6 (v := ?_) rfl (by kernel_rfl) (by kernel_rfl) (by kernel_rfl) (fun _ _ _ h => h) (by kernel_rfl) (by assumption) ?_ ?_; rotate_left; (focus (intro w hSw; (try dsimp only at hSw); go_simp; (first | done | (with_reducible rfl)))); (try simp only [Act.put, List.setIfInBounds_toArray, List.set_cons_zero, List.set_cons_succ])
        refine tk_yes 7 (v := ?_) rfl (by kernel_rfl) (by kernel_rfl) (by kernel_rfl) (fun _ _ _ h => h) (by kernel_rfl) (by assumption) ?_ ?_; rotate_left; (focus (intro w hSw; (try dsimp only at hSw); go_simp; (first | done | (with_reducible rfl)))); (try simp only [Act.put, List.setIfInBounds_toArray, List.set_cons_zero, List.set_cons_succ])
        refine wpAnyH_done (by kernel_rfl) ?_ _
        have hx9 := (hS6.out _ B5).2.2.2.2.2.2
        have lt9 : b < u5.heap.size := (by rcases Nat.lt_or_ge b u5.heap.size with h | h; exact h; exact absurd hx9 (by unfold World.cell?; rw [Array.getElem?_eq_none h]; simp))
        have HN5 := Lib.hid (HN.out.keep B5)
        have B15 := Lib.hid (bel_trans' HB2.out B5 HB2.out.size)
        obtain ⟨w6, rfl⟩ : ∃ w6, w6 = u5 := ⟨_, rfl⟩
        have b15 := B15.out
        clear B5 KC
        go_wp2_with (at_builtin; refine app_listI rfl (.tmp 25) (.tmp 30) rfl w1.heap.size _ (ints ((L.take k).filter (fun z => decide (childW N up z = [])))) rfl (HN5.out.keep (by repeat (first | exact Below.refl _ _ | assumption | refine bel_drew ?_ | refine bel_drewN ?_ _ | refine bel_alloc ?_ _ | refine bel_set ?_ (by first | (dsimp only; omega) | (simp; done) | (simp; omega)) _ | refine bel_trans ?_ (by assumption)))) (some ⟨w6.heap.size, 0, none⟩) 1 1 [(q : Int)] rfl (src_oneI (by simp [go_sem])) (by rw [HNL.out]; omega) (by have := B15.out.size; simp; omega) ?_; intro V9 w9 ho9 hb9; rw [HT3.out] at ho9; have HO9 := Lib.hid ho9; have B9 := Lib.hid ((show Below w1.heap.size w1 _ from (by repeat (first | exact Below.refl _ _ | assumption | refine bel_drew ?_ | refine bel_drewN ?_ _ | refine bel_alloc ?_ _ | refine bel_set ?_ (by first | (dsimp only; omega) | (simp; done) | (simp; omega)) _ | refine bel_trans ?_ (by assumption)))).trans hb9); clear ho9 hb9)
        go_roundw
        case rel => exact ⟨k + 1, by rw [HLN.out]; omega, rfl, HO9.out, B9.out⟩
        case measure => simp [intOf]; omega
      · have HT3 : Hid (ints ((L.take k).filter (fun z => decide (childW N up z = []))) = ints ((L.take (k + 1)).filter (fun z => decide (childW N up z = [])))) := Lib.hid (by rw [HTK.out, List.filter_append, List.filter_cons, if_neg (by simp [hkid])]; simp)
        obtain ⟨kl, hkl⟩ : ∃ kl, (childW N up q).length = kl := ⟨_, rfl⟩
        have hkl0 : ((kl : Int) == 0) = false := by
          have : kl ≠ 0 := fun e => hkid (List.eq_nil_of_length_eq_zero (hkl.trans e))
          simp; omega
        have HKL := Lib.hid hkl
        clear hkid hkl
        go_upto_region 6 with (fail)
        refine wp_region_held_drew (S := (fun W : World => W.cell? ⟨w.heap.size, 0, none⟩ = some (.slice Ao n co) ∧ W.cell? ⟨w.heap.size, 1, none⟩ = some (.slice Ag n cg) ∧ W.cell? ⟨w.heap.size, 2, none⟩ = some (.slice Ac m cc) ∧ W.cell? ⟨w.heap.size, 3, none⟩ = some (.int .i64 (fr : Int)) ∧ W.cell? ⟨w.heap.size, 4, none⟩ = some (.slice An N.length cn) ∧ W.cell? ⟨w.heap.size, 5, none⟩ = some (.slice Ap N.length cp) ∧ W.cell? ⟨b, off + k, none⟩ = some (.int .i64 (q : Int)))) (by kernel_rfl) ?_ (fun hHeld => ?_)
        focus ((try dsimp only); first | exact q9 | exact hS6.out _ (by repeat (first | exact Below.refl _ _ | assumption | refine bel_drew ?_ | refine bel_drewN ?_ _ | refine bel_alloc ?_ _ | refine bel_trans ?_ (by assumption))))
        refine tk_yes 0 (v := ?_) rfl (by kernel_rfl) (by kernel_rfl) (by kernel_rfl) (fun _ _ _ h => h) (by kernel_rfl) (by assumption) ?_ ?_; rotate_left; (focus (intro w hSw; (try dsimp only at hSw); go_simp; (first | done | (with_reducible rfl)))); (try simp only [Act.put, List.setIfInBounds_toArray, List.set_cons_zero, List.set_cons_succ])
        refine tk_yes 1 (v := ?_) rfl (by kernel_rfl) (by kernel_rfl) (by kernel_rfl) (fun _ _ _ h => h) (by kernel_rfl) (by assumption) ?_ ?_; rotate_left; (focus (intro w hSw; (try dsimp only at hSw); go_simp; (first | done | (with_reducible rfl)))); (try simp only [Act.put, List.setIfInBounds_toArray, List.set_cons_zero, List.set_cons_succ])
        refine tk_yes 2 (v := ?_) rfl (by kernel_rfl) (by kernel_rfl) (by kernel_rfl) (fun _ _ _ h => h) (by kernel_rfl) (by assumption) ?_ ?_; rotate_left; (focus (intro w hSw; (try dsimp only at hSw); go_simp; (first | done | (with_reducible rfl)))); (try simp only [Act.put, List.setIfInBounds_toArray, List.set_cons_zero, List.set_cons_succ])
        refine tk_yes 3 (v := ?_) rfl (by kernel_rfl) (by kernel_rfl) (by kernel_rfl) (fun _ _ _ h => h) (by kernel_rfl) (by assumption) ?_ ?_; rotate_left; (focus (intro w hSw; (try dsimp only at hSw); go_simp; (first | done | (with_reducible rfl)))); (try simp only [Act.put, List.setIfInBounds_toArray, List.set_cons_zero, List.set_cons_succ])
        refine tk_yes 4 (v := ?_) rfl (by kernel_rfl) (by kernel_rfl) (by kernel_rfl) (fun _ _ _ h => h) (by kernel_rfl) (by assumption) ?_ ?_; rotate_left; (focus (intro w hSw; (try dsimp only at hSw); go_simp; (first | done | (with_reducible rfl)))); (try simp only [Act.put, List.setIfInBounds_toArray, List.set_cons_zero, List.set_cons_succ])
        refine tk_call 5 rfl (by kernel_rfl) (by kernel_rfl) (fun KW hKW => ?_); go_simp; go_at_call 47; refine (KC.out _ (by repeat (first | exact Below.refl _ _ | assumption | refine bel_drew ?_ | refine bel_drewN ?_ _ | refine bel_alloc ?_ _ | refine bel_trans ?_ (by assumption)))).mono ?_; rintro e u5 ⟨A5, n5, c5, rfl, i5, hb5⟩; have en : kl = n5 := (by have := i5.1.1; rw [ints_len, HKL.out] at this; exact this); subst en; have B5 := bel_to (W0 := wr) (by repeat (first | exact Below.refl _ _ | assumption | refine bel_drew ?_ | refine bel_drewN ?_ _ | refine bel_alloc ?_ _ | refine bel_trans ?_ (by assumption))) hb5; have q9 := hS6.out _ B5; clear i5 hb5; refine hKW.out _ _ ?_ (fun hHeld => ?_); (focus ((try dsimp only); first | exact q9 | exact hS6.out _ (by repeat (first | exact Below.refl _ _ | assumption | refine bel_drew ?_ | refine bel_drewN ?_ _ | refine bel_alloc ?_ _ | refine bel_trans ?_ (by assumption))))); clear hKW KW; (try simp only [Act.put, List.setIfInBounds_toArray, List.set_cons_zero, List.set_cons_succ])
        refine tk_yes 6 (v := ?_) rfl (by kernel_rfl) (by kernel_rfl) (by kernel_rfl) (fun _ _ _ h => h) (by kernel_rfl) (by assumption) ?_ ?_; rotate_left; (focus (intro w hSw; (try dsimp only at hSw); go_simp; (first | done | (with_reducible rfl)))); (try simp only [Act.put, List.setIfInBounds_toArray, List.set_cons_zero, List.set_cons_succ])
        refine tk_yes 7 (v := ?_) rfl (by kernel_rfl) (by kernel_rfl) (by kernel_rfl) (fun _ _ _ h => h) (by kernel_rfl) (by assumption) ?_ ?_; rotate_left; (focus (intro w hSw; (try dsimp only at hSw); go_simp; (first | done | (with_reducible rfl)))); (try simp only [Act.put, List.setIfInBounds_toArray, List.set_cons_zero, List.set_cons_succ])
        refine wpAnyH_done (by kernel_rfl) ?_ _
        have HN5 := Lib.hid (HN.out.keep B5)
        have B15 := Lib.hid (bel_trans' HB2.out B5 HB2.out.size)
        clear B5 KC
        go_wp2_with fail
        go_roundw
        case rel => exact ⟨k + 1, by rw [HLN.out]; omega, rfl, by rw [← HT3.out]; exact HN5.out.keep (by repeat (first | exact Below.refl _ _ | assumption | refine bel_drew ?_ | refine bel_drewN ?_ _ | refine bel_alloc ?_ _ | refine bel_set ?_ (by first | (dsimp only; omega) | (simp; done) | (simp; omega)) _ | refine bel_trans ?_ (by assumption))), bel_trans' B15.out (by repeat (first | exact Below.refl _ _ | assumption | refine bel_drew ?_ | refine bel_drewN ?_ _ | refine bel_alloc ?_ _ | refine bel_set ?_ (by first | (dsimp only; omega) | (simp; done) | (simp; omega)) _ | refine bel_trans ?_ (by assumption))) B15.out.size⟩
        case measure => simp [intOf]; omega
    · have hkn : k = ln := by omega
      have hltI : ¬ (k : Int) < (ln : Int) := by omega
      have etk : L.take k = L := List.take_of_length_le (by rw [HLN.out]; omega)
      have HNX : Hid (OwnI w1.heap.size wr (.slice Ax nl cx) (ints (L.filter (fun z => decide (childW N up z = []))))) := Lib.hid (by have := HN.out; rwa [etk] at this)
      have HAL : Hid ((ints (L.filter (fun z => decide (childW N up z = [])))).length ≤ 9223372036854775807) := Lib.hid (by rw [ints_len]; have := List.length_filter_le (fun z => decide (childW N up z = [])) L; have := HLN.out; omega)
      clear etk hkn
      go_wp2_with fail
      go_ret
      exact own_gives (HNX.out.mono B1.out.size) HAL.out (bel_trans B1.out HB2.out)
end Go.Proofs.Ytdhcmnbajkpjiaa
