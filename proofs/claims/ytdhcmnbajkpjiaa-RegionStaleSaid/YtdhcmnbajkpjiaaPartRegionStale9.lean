/- Part 9 of the proof of RegionStale: lemmas, each with its conditions ahead of it. -/
import Derived.Test.YtdhcmnbajkpjiaaPartRegionStale8
import Derived.Test.YtdhcmnbajkpjiaaPartRegionStale2
import Derived.KernelRfl
import Derived.WalkKit
import Derived.Outline
import Derived.Below
import Derived.Lib.Hide
import Derived.BigQuiet
import Derived.Deep.QuietTactic
import Derived.Handy
import Derived.Test.YtdhcmnbajkpjiaaPartRegionStale1
import Derived.Laws.BitsAllLaws
import Derived.Laws.BitsLemmas
import Derived.Maps.Own
import Derived.Maps.Views
import Derived.Deep.OwnRows
import Derived.Laws.CopyOwn
/-
  Layer 38 (walk): the reference's all and Within.
-/
namespace Go.Proofs.Ytdhcmnbajkpjiaa
open Go.RowKit
open Go.Maps
set_option linter.unusedVariables false
set_option linter.unusedSimpArgs false
attribute [local go_sem] drewN_alloc drewN_setCell

variable {w0 w w' : World} {P : Nat → Prop} {V : Value} {n : Nat} {g : List Int} {O cl : List Nat} {fr : Nat} {N : List Nat} {up : List Int}
def AllRel (w : World) (xs ys : List Int) (m : Nat) (i : Value) (wr : World) : Prop :=
  ∃ k : Nat, k ≤ m ∧ i = .int .i64 k ∧ (∀ j, j < k → ys.getD j 0 ∈ xs) ∧ w = wr
theorem ref38_all {A A2 : Option Addr} {n m : Nat} {xs ys : List Int} (c c2 : Nat) {w : World} (h : IntsAt w A n xs) (h2 : IntsAt w A2 m ys) : Calls Try.prog 135 #[.slice A n c, .slice A2 m c2] w fun e w' => e = .returned (.bool (decide (∀ y ∈ ys, y ∈ xs))) ∧ w = w' := by
  have H1 := Lib.hid h
  have hl := h2.1
  have hm := h2.2.1
  have HC := Lib.hid h2.2.2
  clear h h2
  go_enter Try.func135, Try.ntmps135
  go_wp2_with fail
  go_loopw [5] (fun i wr => AllRel w xs ys m i wr) (fun i _ => m - (intOf i).toNat)
  case atStart => exact ⟨0, Nat.zero_le _, rfl, fun j hj => absurd hj (by omega), rfl⟩
  case round =>
    obtain ⟨k, hk, rfl, hno, rfl⟩ := hrel
    have HN := Lib.hid hno
    clear hno
    by_cases hlt : (k : Int) < (m : Int)
    · obtain ⟨b, off, rfl, hb, hc⟩ := HC.out (by omega)
      have xk := hc k (by omega)
      have HM : Hid (ys.getD k 0 ∈ ys) := Lib.hid (by
        have e : ys.getD k 0 = ys[k]'(by omega) := by simp [List.getD, show k < ys.length by omega]
        rw [e]
        exact List.getElem_mem _)
      have HNX : Hid (ys.getD k 0 ∈ xs → ∀ j, j < k + 1 → ys.getD j 0 ∈ xs) := Lib.hid (fun hq j hj => by
        rcases Nat.lt_or_ge j k with h1 | h1
        · exact HN.out j h1
        · obtain rfl : j = k := by omega
          exact hq)
      obtain ⟨y, hy⟩ : ∃ y, ys.getD k 0 = y := ⟨_, rfl⟩
      rw [hy] at xk HM HNX
      have KH := Lib.hid (ref38_has c y H1.out)
      have j0 : (0 : Int) ≤ (k : Int) := by omega
      have j1 : (k : Int) < (m : Int) := hlt
      clear hc hy
      by_cases hq : y ∈ xs
      · have HE := Lib.hid (HNX.out hq)
        rw [decide_eq_true hq] at KH
        clear hq
        go_wp2_with fail
        refine KH.out.mono ?_
        rintro e w1 ⟨rfl, rfl⟩
        go_wp2_with fail
        go_roundw
        case rel => exact ⟨k + 1, by omega, by go_num, HE.out, rfl⟩
        case measure => simp [intOf] <;> omega
      · have HE : Hid (false = decide (∀ y ∈ ys, y ∈ xs)) := Lib.hid (decide_eq_false (fun hm => hq (hm y HM.out))).symm
        rw [decide_eq_false hq] at KH
        clear hq
        go_wp2_with fail
        refine KH.out.mono ?_
        rintro e w1 ⟨rfl, rfl⟩
        go_wp2_with fail
        go_ret
        exact ⟨ret_bool HE.out, rfl⟩
    · have HE : Hid (true = decide (∀ y ∈ ys, y ∈ xs)) := Lib.hid (decide_eq_true (fun y hm => by
        obtain ⟨j, hj, e⟩ := List.mem_iff_getElem.1 hm
        have := HN.out j (by omega)
        rw [← e]
        simpa [List.getD, hj] using this)).symm
      go_wp2_with fail
      go_ret
      exact ⟨ret_bool HE.out, rfl⟩
/-- Whether a number is a node of another one's subtree. -/
def inW (N : List Nat) (up : List Int) (x t : Int) : Bool := decide ((0 ≤ x ∧ x.toNat ∈ N) ∧ x ∈ ints (preW N up t))
set_option maxRecDepth 100000 in
theorem ref38_Within (x t : Int) (hO : Ord N up) (hN : N.length ≤ 4096) (h : RefF P w V n g O cl fr N up) : Calls Try.prog 82 #[V, .int .i64 x, .int .i64 t] w fun e w' => e = .returned (.bool (inW N up x t)) ∧ Below w.heap.size w w' := by
  have hh := h
  obtain ⟨Ao, co, Ag, cg, Ac, cc, An, cn, Ap, cp, rfl, h1, h2, h3⟩ := h
  obtain ⟨m, hml⟩ : ∃ m, cl.length = m := ⟨_, rfl⟩
  rw [hml] at hh ⊢
  obtain ⟨w0, hw0⟩ : ∃ w0, w.alloc (.cells #[.slice Ao n co, .slice Ag n cg, .slice Ac m cc, .int .i64 (fr : Int), .slice An N.length cn, .slice Ap N.length cp] 58) = w0 := ⟨_, rfl⟩
  have r0 : RowAt w0 w.heap.size 58 [.slice Ao n co, .slice Ag n cg, .slice Ac m cc, .int .i64 (fr : Int), .slice An N.length cn, .slice Ap N.length cp] := by rw [← hw0]; exact RowAt.new w 58 _
  have b0 : Below w.heap.size w w0 := by rw [← hw0]; exact (by repeat (first | exact Below.refl _ _ | assumption | refine bel_drew ?_ | refine bel_drewN ?_ _ | refine bel_alloc ?_ _ | refine bel_set ?_ (by first | (dsimp only; omega) | (simp; done) | (simp; omega)) _ | refine bel_trans ?_ (by assumption)))
  have R0 := Lib.hid r0
  have B0 := Lib.hid b0
  have HW0 := Lib.hid hw0
  have HH := Lib.hid (hh.keep b0)
  clear h1 h2 h3 hml b0 hh hw0 r0
  have KA := Lib.hid (ref37_At x HH.out)
  have c0 : w0.cell? ⟨w.heap.size, 0, none⟩ = some (.slice Ao n co) := by rw [R0.out.cell]; rfl
  have c1 : w0.cell? ⟨w.heap.size, 1, none⟩ = some (.slice Ag n cg) := by rw [R0.out.cell]; rfl
  have c2 : w0.cell? ⟨w.heap.size, 2, none⟩ = some (.slice Ac m cc) := by rw [R0.out.cell]; rfl
  have c3 : w0.cell? ⟨w.heap.size, 3, none⟩ = some (.int .i64 (fr : Int)) := by rw [R0.out.cell]; rfl
  have c4 : w0.cell? ⟨w.heap.size, 4, none⟩ = some (.slice An N.length cn) := by rw [R0.out.cell]; rfl
  have c5 : w0.cell? ⟨w.heap.size, 5, none⟩ = some (.slice Ap N.length cp) := by rw [R0.out.cell]; rfl
  by_cases hx : 0 ≤ x ∧ x.toNat ∈ N
  · have e1 : PC.place N x = (N.idxOf x.toNat : Nat) := by unfold PC.place; rw [if_pos hx]
    obtain ⟨q, hq⟩ : ∃ q, N.idxOf x.toNat = q := ⟨_, rfl⟩
    rw [e1, hq] at KA
    have g0 : (0 : Int) ≤ (q : Int) := by omega
    have HE : Hid (decide (x ∈ ints (preW N up t)) = inW N up x t) := Lib.hid (by unfold inW; exact decide_eq_decide.2 ⟨fun h => ⟨hx, h⟩, fun h => h.2⟩)
    clear e1 hq hx
    go_enter Try.func82, Try.ntmps82
    go_upto_region 1 with (fail)
    rw [HW0.out]
    go_wp2_with fail
    refine KA.out.mono ?_
    rintro e w1 ⟨rfl, b1⟩
    have r1 := R0.out.keep b1
    have KP := Lib.hid (ref38_Pre t hO hN (HH.out.keep b1))
    have B1 := Lib.hid (bel_trans B0.out b1)
    clear KA b1 c0 c1 c2 c3 c4 c5
    have c0 : w1.cell? ⟨w.heap.size, 0, none⟩ = some (.slice Ao n co) := by rw [r1.cell]; rfl
    have c1 : w1.cell? ⟨w.heap.size, 1, none⟩ = some (.slice Ag n cg) := by rw [r1.cell]; rfl
    have c2 : w1.cell? ⟨w.heap.size, 2, none⟩ = some (.slice Ac m cc) := by rw [r1.cell]; rfl
    have c3 : w1.cell? ⟨w.heap.size, 3, none⟩ = some (.int .i64 (fr : Int)) := by rw [r1.cell]; rfl
    have c4 : w1.cell? ⟨w.heap.size, 4, none⟩ = some (.slice An N.length cn) := by rw [r1.cell]; rfl
    have c5 : w1.cell? ⟨w.heap.size, 5, none⟩ = some (.slice Ap N.length cp) := by rw [r1.cell]; rfl
    clear r1
    go_wp2_with fail
    refine KP.out.mono ?_
    rintro e w2 ⟨A2, n2, c2', rfl, i2, b2⟩
    have KH := Lib.hid (ref38_has c2' x i2.1)
    rw [HE.out] at KH
    have B2 := Lib.hid (bel_trans B1.out b2)
    clear KP i2 b2 c0 c1 c2 c3 c4 c5
    go_wp2_with fail
    refine KH.out.mono ?_
    rintro e w3 ⟨rfl, rfl⟩
    clear KH
    go_wp2_with fail
    go_ret
    exact ⟨ret_bool (by simp), B2.out⟩
  · have e1 : PC.place N x = -1 := by unfold PC.place; rw [if_neg hx]
    rw [e1] at KA
    have HE : Hid (false = inW N up x t) := Lib.hid (by unfold inW; exact (decide_eq_false (fun h => hx h.1)).symm)
    clear e1 hx
    go_enter Try.func82, Try.ntmps82
    go_upto_region 1 with (fail)
    rw [HW0.out]
    go_wp2_with fail
    refine KA.out.mono ?_
    rintro e w1 ⟨rfl, b1⟩
    have B1 := Lib.hid (bel_trans B0.out b1)
    clear KA b1 c0 c1 c2 c3 c4 c5
    go_wp2_with fail
    go_ret
    exact ⟨ret_bool HE.out, B1.out⟩
end Go.Proofs.Ytdhcmnbajkpjiaa
/-
  Layer 38 (walk): the reference's Post.
-/
namespace Go.Proofs.Ytdhcmnbajkpjiaa
open Go.RowKit
open Go.Maps
set_option linter.unusedVariables false
set_option linter.unusedSimpArgs false
attribute [local go_sem] drewN_alloc drewN_setCell

variable {w0 w w' : World} {P : Nat → Prop} {V : Value} {n : Nat} {g : List Int} {O cl : List Nat} {fr : Nat} {N : List Nat} {up : List Int}
def PostRel (w1 : World) (post : List Nat) (v : Value) (wr : World) : Prop := ∃ out b, OwnI w1.heap.size wr v (ints out) ∧ out ++ b = post ∧ Below w1.heap.size w1 wr
def FindRel (w1 : World) (L : List Nat) (kid : Nat → List Nat) (out : List Nat) (y : Nat) (a i : Value) (wr : World) : Prop :=
  ∃ k, k ≤ L.length ∧ i = .int .i64 (k : Nat) ∧ Below w1.heap.size w1 wr ∧ ((a = .int .i64 (-1) ∧ ∀ j, j < k → ∀ z, L[j]? = some z → PW.ok kid out z = false) ∨ ∃ j : Nat, a = .int .i64 (j : Nat) ∧ j < L.length ∧ L[j]? = some y)
theorem ok_eq (out : List Nat) (q : Nat) : PW.ok (childW N up) out q = (!decide ((q : Int) ∈ ints out) && decide (∀ y ∈ ints (childW N up q), y ∈ ints out)) := by
  unfold PW.ok
  congr 1
  · simp [in_ints]
  · rw [Bool.eq_iff_iff, List.all_eq_true, decide_eq_true_eq]
    constructor
    · intro h y hy
      unfold ints at hy
      obtain ⟨c, hc, rfl⟩ := List.mem_map.1 hy
      exact in_ints.2 (of_decide_eq_true (h c hc))
    · intro h c hc
      exact decide_eq_true (in_ints.1 (h (c : Int) (in_ints.2 hc)))
theorem find_hit {L : List Nat} {p : Nat → Bool} {y : Nat} (h : L.find? p = some y) {k z : Nat} (hn : ∀ j, j < k → ∀ z, L[j]? = some z → p z = false) (hk : L[k]? = some z) (hp : p z = true) : z = y := by
  have hlt : k < L.length := by
    rcases Nat.lt_or_ge k L.length with h1 | h1
    · exact h1
    · rw [List.getElem?_eq_none h1] at hk; cases hk
  have e1 : L = L.take k ++ z :: L.drop (k + 1) := by
    have e2 : L[k]'hlt = z := by rw [List.getElem?_eq_getElem hlt] at hk; exact Option.some.inj hk
    rw [← e2, List.getElem_cons_drop, List.take_append_drop]
  rw [e1, List.find?_append, List.find?_eq_none.2 (fun x hx => ?_)] at h
  · rw [List.find?_cons_of_pos hp] at h
    simpa using h
  · obtain ⟨j, hj, e⟩ := List.mem_iff_getElem.1 hx
    rw [List.length_take] at hj
    have := hn j (by omega) x (by rw [← e, List.getElem_take, List.getElem?_eq_getElem (by omega)])
    simp [this]
theorem find_miss {L : List Nat} {p : Nat → Bool} {y : Nat} (h : L.find? p = some y) (hn : ∀ j, j < L.length → ∀ z, L[j]? = some z → p z = false) : False := by
  have := List.find?_some h
  have hm := List.mem_of_find?_eq_some h
  obtain ⟨j, hj, e⟩ := List.mem_iff_getElem.1 hm
  have h2 := hn j hj y (by rw [List.getElem?_eq_getElem hj, e])
  rw [h2] at this
  cases this
set_option maxRecDepth 100000 in
set_option maxHeartbeats 16000000 in
theorem ref38_Post (x : Int) (hO : Ord N up) (hN : N.length ≤ 4096) (h : RefF P w V n g O cl fr N up) : Calls Try.prog 75 #[V, .int .i64 x] w (GivesInts w (ints (postW N up x))) := by
  have hh := h
  obtain ⟨Ao, co, Ag, cg, Ac, cc, An, cn, Ap, cp, rfl, h1, h2, h3⟩ := h
  obtain ⟨m, hml⟩ : ∃ m, cl.length = m := ⟨_, rfl⟩
  rw [hml] at hh ⊢
  obtain ⟨w0, hw0⟩ : ∃ w0, w.alloc (.cells #[.slice Ao n co, .slice Ag n cg, .slice Ac m cc, .int .i64 (fr : Int), .slice An N.length cn, .slice Ap N.length cp] 58) = w0 := ⟨_, rfl⟩
  have r0 : RowAt w0 w.heap.size 58 [.slice Ao n co, .slice Ag n cg, .slice Ac m cc, .int .i64 (fr : Int), .slice An N.length cn, .slice Ap N.length cp] := by rw [← hw0]; exact RowAt.new w 58 _
  have b0 : Below w.heap.size w w0 := by rw [← hw0]; exact (by repeat (first | exact Below.refl _ _ | assumption | refine bel_drew ?_ | refine bel_drewN ?_ _ | refine bel_alloc ?_ _ | refine bel_set ?_ (by first | (dsimp only; omega) | (simp; done) | (simp; omega)) _ | refine bel_trans ?_ (by assumption)))
  have R0 := Lib.hid r0
  have B0 := Lib.hid b0
  have HW0 := Lib.hid hw0
  have HH := Lib.hid (hh.keep b0)
  clear h1 h2 h3 hml b0 hh hw0 r0
  have HF : Hid (∀ a b y, postW N up x = a ++ y :: b → (preW N up x).find? (PW.ok (childW N up) a) = some y) := Lib.hid (fun a b y e => by
    by_cases hx : 0 ≤ x ∧ x.toNat ∈ N
    · have nd := PW.post_nodup hO.is x.toNat
      rw [postW_yes hx] at e
      rw [preW_yes hx]
      rw [e] at nd
      exact PW.find_post hO.is.hk x.toNat a a b y e (fun z hz => hz) (fun z hz hza => (List.nodup_append.1 nd).2.2 z hza z hz rfl)
    · rw [postW_no hx] at e; simp at e)
  have hl := preW_len hO x
  have hl2 := postW_len hO x
  have KA := Lib.hid (ref38_Pre x hO hN HH.out)
  obtain ⟨all, hr⟩ : ∃ all, postW N up x = all := ⟨_, rfl⟩
  obtain ⟨L, hL⟩ : ∃ L, preW N up x = L := ⟨_, rfl⟩
  rw [hL] at KA hl hl2
  rw [hr] at hl2 ⊢
  rw [hL, hr] at HF
  obtain ⟨ln, hln⟩ : ∃ ln, L.length = ln := ⟨_, rfl⟩
  have hll : ln ≤ 4096 := by omega
  have hal : all.length = ln := by omega
  have HLN := Lib.hid hln
  have HAL := Lib.hid hal
  have c0 : w0.cell? ⟨w.heap.size, 0, none⟩ = some (.slice Ao n co) := by rw [R0.out.cell]; rfl
  have c1 : w0.cell? ⟨w.heap.size, 1, none⟩ = some (.slice Ag n cg) := by rw [R0.out.cell]; rfl
  have c2 : w0.cell? ⟨w.heap.size, 2, none⟩ = some (.slice Ac m cc) := by rw [R0.out.cell]; rfl
  have c3 : w0.cell? ⟨w.heap.size, 3, none⟩ = some (.int .i64 (fr : Int)) := by rw [R0.out.cell]; rfl
  have c4 : w0.cell? ⟨w.heap.size, 4, none⟩ = some (.slice An N.length cn) := by rw [R0.out.cell]; rfl
  have c5 : w0.cell? ⟨w.heap.size, 5, none⟩ = some (.slice Ap N.length cp) := by rw [R0.out.cell]; rfl
  clear hr hL hl hl2 hln hal
  go_enter Try.func75, Try.ntmps75
  go_upto_region 1 with (fail)
  rw [HW0.out]
  go_wp2_with fail
  refine KA.out.mono ?_
  rintro e w1 ⟨A1, n1, c1', rfl, i1, b1⟩
  have hn1 : n1 = ln := by have := i1.1.1; rw [ints_len, HLN.out] at this; exact this.symm
  subst hn1
  have R1 := Lib.hid (R0.out.keep b1)
  have HH1 := Lib.hid (HH.out.keep b1)
  have I1 := Lib.hid i1.1
  have B1 := Lib.hid (bel_trans B0.out b1)
  clear KA b1 i1 c0 c1 c2 c3 c4 c5 HH R0
  go_wp2_with fail
  go_loopw [6, 7, 8] (fun v a i wr => PostRel w1 all v wr) (fun v _ _ _ => all.length - vlen v)
  case atStart => exact ⟨[], all, OwnI.nil _ _, rfl, Below.refl _ _⟩
  case round =>
    obtain ⟨out, bb, ho, he, hb⟩ := hrel
    obtain ⟨wo, rfl⟩ : ∃ wo, wo = wr := ⟨_, rfl⟩
    obtain ⟨Av, cv, hv9⟩ := own_shape ho
    subst hv9
    have HO1 := Lib.hid ho
    have HB := Lib.hid hb
    have HE := Lib.hid he
    have hol : (ints out).length + bb.length = n1 := by
      have := congrArg List.length he
      rw [List.length_append, HAL.out] at this
      rw [ints_len]; omega
    obtain ⟨ol, hol2⟩ : ∃ ol, (ints out).length = ol := ⟨_, rfl⟩
    rw [hol2] at HO1 hol ⊢
    have HOL := Lib.hid hol2
    clear ho he hb hol2
    cases bb with
    | nil =>
      have HE2 : Hid (out = all) := Lib.hid (by rw [← HE.out, List.append_nil])
      have g0 : ¬ (ol : Int) < (n1 : Int) := by rw [List.length_nil] at hol; omega
      have hol3 : ol ≤ 4096 := by rw [List.length_nil] at hol; omega
      clear hol
      go_wp2_with fail
      go_ret
      exact own_gives (by rw [← HE2.out]; exact HO1.out.mono B1.out.size) (by rw [← HE2.out, HOL.out]; omega) (bel_trans' B1.out HB.out B1.out.size)
    | cons y bb =>
      have HFY := Lib.hid (HF.out out bb y HE.out.symm)
      have HE2 : Hid ((out ++ [y]) ++ bb = all) := Lib.hid (by rw [← HE.out]; simp)
      have g0 : (ol : Int) < (n1 : Int) := by rw [List.length_cons] at hol; omega
      have HOLT : Hid (ol < n1) := Lib.hid (by rw [List.length_cons] at hol; omega)
      clear hol HE
      go_wp2_with fail
      go_loopw [7, 8] (fun a i wr => FindRel wo L (childW N up) out y a i wr) (fun a i _ => n1 - (intOf i).toNat)
      case atStart => exact ⟨0, Nat.zero_le _, rfl, Below.refl _ _, .inl ⟨rfl, fun j hj => absurd hj (by omega)⟩⟩
      case round =>
        obtain ⟨k, hk, rfl, hb9, hc⟩ := hrel
        rw [HLN.out] at hk
        have HB9 := Lib.hid hb9
        have B9 := Lib.hid (bel_trans' HB.out hb9 HB.out.size)
        have s9 := hb9.size
        clear hb9
        rcases hc with ⟨rfl, hno⟩ | ⟨j, rfl, hj, hy⟩
        · have HNO := Lib.hid hno
          clear hno
          have hkn : k < n1 := by
            rcases Nat.lt_or_ge k n1 with h1 | h1
            · exact h1
            · exact (find_miss HFY.out (fun j hj => HNO.out j (by rw [HLN.out] at hj; omega))).elim
          have i9 := I1.out.keep B9.out
          obtain ⟨b, off, rfl, hbl, hcell⟩ := i9.2.2 (by omega)
          have x0 := hcell k hkn
          obtain ⟨q, hq⟩ : ∃ q, L[k]'(by rw [HLN.out]; exact hkn) = q := ⟨_, rfl⟩
          have hq2 : L[k]? = some q := by rw [List.getElem?_eq_getElem (by rw [HLN.out]; exact hkn), hq]
          have hq3 : (ints L).getD k 0 = (q : Int) := by rw [← hq]; simp [ints, List.getD, show k < L.length by rw [HLN.out]; exact hkn]
          rw [hq3] at x0
          have HQ2 := Lib.hid hq2
          have HX0 := Lib.hid x0
          clear hcell i9 hq hq2 hq3 x0
          have r9 := R1.out.keep B9.out
          have lt9 := r9.lt
          have hS : Hid (∀ W : World, Below wr.heap.size wr W → (fun W : World => W.cell? ⟨w.heap.size, 0, none⟩ = some (.slice Ao n co) ∧ W.cell? ⟨w.heap.size, 1, none⟩ = some (.slice Ag n cg) ∧ W.cell? ⟨w.heap.size, 2, none⟩ = some (.slice Ac m cc) ∧ W.cell? ⟨w.heap.size, 3, none⟩ = some (.int .i64 (fr : Int)) ∧ W.cell? ⟨w.heap.size, 4, none⟩ = some (.slice An N.length cn) ∧ W.cell? ⟨w.heap.size, 5, none⟩ = some (.slice Ap N.length cp) ∧ W.cell? ⟨b, off + k, none⟩ = some (.int .i64 (q : Int))) W) := Lib.hid (fun W hW => ⟨(hW.cell (p := ⟨w.heap.size, 0, none⟩) lt9).trans ((r9.cell 0).trans rfl), (hW.cell (p := ⟨w.heap.size, 1, none⟩) lt9).trans ((r9.cell 1).trans rfl), (hW.cell (p := ⟨w.heap.size, 2, none⟩) lt9).trans ((r9.cell 2).trans rfl), (hW.cell (p := ⟨w.heap.size, 3, none⟩) lt9).trans ((r9.cell 3).trans rfl), (hW.cell (p := ⟨w.heap.size, 4, none⟩) lt9).trans ((r9.cell 4).trans rfl), (hW.cell (p := ⟨w.heap.size, 5, none⟩) lt9).trans ((r9.cell 5).trans rfl), (hW.cell (p := ⟨b, off + k, none⟩) hbl).trans HX0.out⟩)
          have HOI : Hid (∀ W, Below wr.heap.size wr W → IntsAt W Av ol (ints out)) := Lib.hid (fun W hW => by
            have := ((HO1.out.keep HB9.out).keep hW).intsV
            rwa [HOL.out] at this)
          have KH : Hid (∀ W, Below wr.heap.size wr W → Calls Try.prog 134 #[.slice Av ol cv, .int .i64 (q : Int)] W fun e w' => e = .returned (.bool (decide ((q : Int) ∈ ints out))) ∧ W = w') := Lib.hid (fun W hW => ref38_has cv (q : Int) (HOI.out W hW))
          have KC : Hid (∀ W, Below wr.heap.size wr W → Calls Try.prog 47 #[.agg #[.slice Ao n co, .slice Ag n cg, .slice Ac m cc, .int .i64 (fr : Int), .slice An N.length cn, .slice Ap N.length cp], .int .i64 (q : Int)] W (GivesInts W (ints (childW N up q)))) := Lib.hid (fun W hW => ref37_Children (q : Int) (by omega) (HH1.out.keep (bel_trans B9.out hW)))
          have HOK := Lib.hid (ok_eq (N := N) (up := up) out q)
          have j0 : (0 : Int) ≤ (k : Int) := by omega
          have j1 : (k : Int) < (n1 : Int) := by omega
          have j2 : IntKind.i64.wrap ((k : Int) + 1) = ((k + 1 : Nat) : Int) := by rw [IntKind.wrap_i64]; omega
          clear r9 lt9
          by_cases h1 : (q : Int) ∈ ints out
          · have HREL : Hid (∀ W, Below wr.heap.size wr W → FindRel wo L (childW N up) out y (.int .i64 (-1)) (.int .i64 ((k + 1 : Nat) : Int)) W) := Lib.hid (fun W hW => ⟨k + 1, by rw [HLN.out]; omega, rfl, bel_trans' HB9.out hW HB9.out.size, .inl ⟨rfl, fun j hj z hz => by
              rcases Nat.lt_or_ge j k with h2 | h2
              · exact HNO.out j h2 z hz
              · obtain rfl : j = k := by omega
                rw [HQ2.out] at hz
                obtain rfl := Option.some.inj hz
                rw [HOK.out, decide_eq_true h1]; rfl⟩⟩)
            rw [decide_eq_true h1] at KH
            clear h1
            go_upto_region 8 with (fail)
            refine wp_region_held_drew (S := (fun W : World => W.cell? ⟨w.heap.size, 0, none⟩ = some (.slice Ao n co) ∧ W.cell? ⟨w.heap.size, 1, none⟩ = some (.slice Ag n cg) ∧ W.cell? ⟨w.heap.size, 2, none⟩ = some (.slice Ac m cc) ∧ W.cell? ⟨w.heap.size, 3, none⟩ = some (.int .i64 (fr : Int)) ∧ W.cell? ⟨w.heap.size, 4, none⟩ = some (.slice An N.length cn) ∧ W.cell? ⟨w.heap.size, 5, none⟩ = some (.slice Ap N.length cp) ∧ W.cell? ⟨b, off + k, none⟩ = some (.int .i64 (q : Int)))) (by kernel_rfl) ?_ (fun hHeld => ?_)
            focus ((try dsimp only); first | exact hq9 | exact hS.out _ (by repeat (first | exact Below.refl _ _ | assumption | refine bel_drew ?_ | refine bel_drewN ?_ _ | refine bel_alloc ?_ _ | refine bel_trans ?_ (by assumption))))
            refine tk_yes 0 (v := ?_) rfl (by kernel_rfl) (by kernel_rfl) (by kernel_rfl) (fun _ _ _ h => h) (by kernel_rfl) (by assumption) ?_ ?_; rotate_left; (focus (intro w hSw; (try dsimp only at hSw); go_simp; (first | done | (with_reducible rfl)))); (try simp only [Act.put, List.setIfInBounds_toArray, List.set_cons_zero, List.set_cons_succ])
            refine tk_yes 1 (v := ?_) rfl (by kernel_rfl) (by kernel_rfl) (by kernel_rfl) (fun _ _ _ h => h) (by kernel_rfl) (by assumption) ?_ ?_; rotate_left; (focus (intro w hSw; (try dsimp only at hSw); go_simp; (first | done | (with_reducible rfl)))); (try simp only [Act.put, List.setIfInBounds_toArray, List.set_cons_zero, List.set_cons_succ])
            refine tk_yes 2 (v := ?_) rfl (by kernel_rfl) (by kernel_rfl) (by kernel_rfl) (fun _ _ _ h => h) (by kernel_rfl) (by assumption) ?_ ?_; rotate_left; (focus (intro w hSw; (try dsimp only at hSw); go_simp; (first | done | (with_reducible rfl)))); (try simp only [Act.put, List.setIfInBounds_toArray, List.set_cons_zero, List.set_cons_succ])
            refine tk_yes 3 (v := ?_) rfl (by kernel_rfl) (by kernel_rfl) (by kernel_rfl) (fun _ _ _ h => h) (by kernel_rfl) (by assumption) ?_ ?_; rotate_left; (focus (intro w hSw; (try dsimp only at hSw); go_simp; (first | done | (with_reducible rfl)))); (try simp only [Act.put, List.setIfInBounds_toArray, List.set_cons_zero, List.set_cons_succ])
            refine tk_yes 4 (v := ?_) rfl (by kernel_rfl) (by kernel_rfl) (by kernel_rfl) (fun _ _ _ h => h) (by kernel_rfl) (by assumption) ?_ ?_; rotate_left; (focus (intro w hSw; (try dsimp only at hSw); go_simp; (first | done | (with_reducible rfl)))); (try simp only [Act.put, List.setIfInBounds_toArray, List.set_cons_zero, List.set_cons_succ])
            refine tk_call 5 rfl (by kernel_rfl) (by kernel_rfl) (fun KW hKW => ?_); go_simp; go_at_call 134; refine (KH.out _ (by repeat (first | exact Below.refl _ _ | assumption | refine bel_drew ?_ | refine bel_drewN ?_ _ | refine bel_alloc ?_ _ | refine bel_trans ?_ (by assumption)))).mono ?_; rintro e u5 ⟨rfl, rfl⟩; have hq9 := hS.out _ (by repeat (first | exact Below.refl _ _ | assumption | refine bel_drew ?_ | refine bel_drewN ?_ _ | refine bel_alloc ?_ _ | refine bel_trans ?_ (by assumption))); refine hKW.out _ _ ?_ (fun hHeld => ?_); (focus ((try dsimp only); first | exact hq9 | exact hS.out _ (by repeat (first | exact Below.refl _ _ | assumption | refine bel_drew ?_ | refine bel_drewN ?_ _ | refine bel_alloc ?_ _ | refine bel_trans ?_ (by assumption))))); clear hKW KW; (try simp only [Act.put, List.setIfInBounds_toArray, List.set_cons_zero, List.set_cons_succ])
            refine tk_yes 6 (v := ?_) rfl (by kernel_rfl) (by kernel_rfl) (by kernel_rfl) (fun _ _ _ h => h) (by kernel_rfl) (by assumption) ?_ ?_; rotate_left; (focus (intro w hSw; (try dsimp only at hSw); go_simp; (first | done | (with_reducible rfl)))); (try simp only [Act.put, List.setIfInBounds_toArray, List.set_cons_zero, List.set_cons_succ])
            refine tk_yes 7 (v := ?_) rfl (by kernel_rfl) (by kernel_rfl) (by kernel_rfl) (fun _ _ _ h => h) (by kernel_rfl) (by assumption) ?_ ?_; rotate_left; (focus (intro w hSw; (try dsimp only at hSw); go_simp; (first | done | (with_reducible rfl)))); (try simp only [Act.put, List.setIfInBounds_toArray, List.set_cons_zero, List.set_cons_succ])
            refine tk_no 8 rfl (by kernel_rfl) (by kernel_rfl) (by kernel_rfl) (fun _ _ _ h => h) (by kernel_rfl) (by assumption) ?_; (try simp only [Act.put, List.setIfInBounds_toArray, List.set_cons_zero, List.set_cons_succ])
            refine tk_no 9 rfl (by kernel_rfl) (by kernel_rfl) (by kernel_rfl) (fun _ _ _ h => h) (by kernel_rfl) (by assumption) ?_; (try simp only [Act.put, List.setIfInBounds_toArray, List.set_cons_zero, List.set_cons_succ])
            refine tk_no 10 rfl (by kernel_rfl) (by kernel_rfl) (by kernel_rfl) (fun _ _ _ h => h) (by kernel_rfl) (by assumption) ?_; (try simp only [Act.put, List.setIfInBounds_toArray, List.set_cons_zero, List.set_cons_succ])
            refine tk_no 11 rfl (by kernel_rfl) (by kernel_rfl) (by kernel_rfl) (fun _ _ _ h => h) (by kernel_rfl) (by assumption) ?_; (try simp only [Act.put, List.setIfInBounds_toArray, List.set_cons_zero, List.set_cons_succ])
            refine tk_no 12 rfl (by kernel_rfl) (by kernel_rfl) (by kernel_rfl) (fun _ _ _ h => h) (by kernel_rfl) (by assumption) ?_; (try simp only [Act.put, List.setIfInBounds_toArray, List.set_cons_zero, List.set_cons_succ])
            refine tk_no 13 rfl (by kernel_rfl) (by kernel_rfl) (by kernel_rfl) (fun _ _ _ h => h) (by kernel_rfl) (by assumption) ?_; (try simp only [Act.put, List.setIfInBounds_toArray, List.set_cons_zero, List.set_cons_succ])
            refine tk_no 14 rfl (by kernel_rfl) (by kernel_rfl) (by kernel_rfl) (fun _ _ _ h => h) (by kernel_rfl) (by assumption) ?_; (try simp only [Act.put, List.setIfInBounds_toArray, List.set_cons_zero, List.set_cons_succ])
            refine tk_no 15 rfl (by kernel_rfl) (by kernel_rfl) (by kernel_rfl) (fun _ _ _ h => h) (by kernel_rfl) (by assumption) ?_; (try simp only [Act.put, List.setIfInBounds_toArray, List.set_cons_zero, List.set_cons_succ])
            refine tk_yes 16 (v := ?_) rfl (by kernel_rfl) (by kernel_rfl) (by kernel_rfl) (fun _ _ _ h => h) (by kernel_rfl) (by assumption) ?_ ?_; rotate_left; (focus (intro w hSw; (try dsimp only at hSw); go_simp; (first | done | (with_reducible rfl)))); (try simp only [Act.put, List.setIfInBounds_toArray, List.set_cons_zero, List.set_cons_succ])
            refine wpAnyH_done (by kernel_rfl) ?_ _
            go_wp2_with fail
            go_roundw
            case rel => exact HREL.out _ (by repeat (first | exact Below.refl _ _ | assumption | refine bel_drew ?_ | refine bel_drewN ?_ _ | refine bel_alloc ?_ _ | refine bel_trans ?_ (by assumption)))
            case measure => simp [intOf] <;> omega
          · rw [decide_eq_false h1] at KH HOK
            by_cases h2 : ∀ z ∈ ints (childW N up q), z ∈ ints out
            · have E2 : Hid (decide (∀ z ∈ ints (childW N up q), z ∈ ints out) = true) := Lib.hid (decide_eq_true h2)
              have hqy : q = y := find_hit HFY.out HNO.out HQ2.out (by rw [HOK.out, E2.out]; rfl)
              have HREL : Hid (∀ W, Below wr.heap.size wr W → FindRel wo L (childW N up) out y (.int .i64 (k : Int)) (.int .i64 ((k + 1 : Nat) : Int)) W) := Lib.hid (fun W hW => ⟨k + 1, by rw [HLN.out]; omega, rfl, bel_trans' HB9.out hW HB9.out.size, .inr ⟨k, rfl, by rw [HLN.out]; omega, by rw [← hqy]; exact HQ2.out⟩⟩)
              clear h1 h2 hqy
              go_upto_region 8 with (fail)
              refine wp_region_held_drew (S := (fun W : World => W.cell? ⟨w.heap.size, 0, none⟩ = some (.slice Ao n co) ∧ W.cell? ⟨w.heap.size, 1, none⟩ = some (.slice Ag n cg) ∧ W.cell? ⟨w.heap.size, 2, none⟩ = some (.slice Ac m cc) ∧ W.cell? ⟨w.heap.size, 3, none⟩ = some (.int .i64 (fr : Int)) ∧ W.cell? ⟨w.heap.size, 4, none⟩ = some (.slice An N.length cn) ∧ W.cell? ⟨w.heap.size, 5, none⟩ = some (.slice Ap N.length cp) ∧ W.cell? ⟨b, off + k, none⟩ = some (.int .i64 (q : Int)))) (by kernel_rfl) ?_ (fun hHeld => ?_)
              focus ((try dsimp only); first | exact hq9 | exact hS.out _ (by repeat (first | exact Below.refl _ _ | assumption | refine bel_drew ?_ | refine bel_drewN ?_ _ | refine bel_alloc ?_ _ | refine bel_trans ?_ (by assumption))))
              refine tk_yes 0 (v := ?_) rfl (by kernel_rfl) (by kernel_rfl) (by kernel_rfl) (fun _ _ _ h => h) (by kernel_rfl) (by assumption) ?_ ?_; rotate_left; (focus (intro w hSw; (try dsimp only at hSw); go_simp; (first | done | (with_reducible rfl)))); (try simp only [Act.put, List.setIfInBounds_toArray, List.set_cons_zero, List.set_cons_succ])
              refine tk_yes 1 (v := ?_) rfl (by kernel_rfl) (by kernel_rfl) (by kernel_rfl) (fun _ _ _ h => h) (by kernel_rfl) (by assumption) ?_ ?_; rotate_left; (focus (intro w hSw; (try dsimp only at hSw); go_simp; (first | done | (with_reducible rfl)))); (try simp only [Act.put, List.setIfInBounds_toArray, List.set_cons_zero, List.set_cons_succ])
              refine tk_yes 2 (v := ?_) rfl (by kernel_rfl) (by kernel_rfl) (by kernel_rfl) (fun _ _ _ h => h) (by kernel_rfl) (by assumption) ?_ ?_; rotate_left; (focus (intro w hSw; (try dsimp only at hSw); go_simp; (first | done | (with_reducible rfl)))); (try simp only [Act.put, List.setIfInBounds_toArray, List.set_cons_zero, List.set_cons_succ])
              refine tk_yes 3 (v := ?_) rfl (by kernel_rfl) (by kernel_rfl) (by kernel_rfl) (fun _ _ _ h => h) (by kernel_rfl) (by assumption) ?_ ?_; rotate_left; (focus (intro w hSw; (try dsimp only at hSw); go_simp; (first | done | (with_reducible rfl)))); (try simp only [Act.put, List.setIfInBounds_toArray, List.set_cons_zero, List.set_cons_succ])
              refine tk_yes 4 (v := ?_) rfl (by kernel_rfl) (by kernel_rfl) (by kernel_rfl) (fun _ _ _ h => h) (by kernel_rfl) (by assumption) ?_ ?_; rotate_left; (focus (intro w hSw; (try dsimp only at hSw); go_simp; (first | done | (with_reducible rfl)))); (try simp only [Act.put, List.setIfInBounds_toArray, List.set_cons_zero, List.set_cons_succ])
              refine tk_call 5 rfl (by kernel_rfl) (by kernel_rfl) (fun KW hKW => ?_); go_simp; go_at_call 134; refine (KH.out _ (by repeat (first | exact Below.refl _ _ | assumption | refine bel_drew ?_ | refine bel_drewN ?_ _ | refine bel_alloc ?_ _ | refine bel_trans ?_ (by assumption)))).mono ?_; rintro e u5 ⟨rfl, rfl⟩; have hq9 := hS.out _ (by repeat (first | exact Below.refl _ _ | assumption | refine bel_drew ?_ | refine bel_drewN ?_ _ | refine bel_alloc ?_ _ | refine bel_trans ?_ (by assumption))); refine hKW.out _ _ ?_ (fun hHeld => ?_); (focus ((try dsimp only); first | exact hq9 | exact hS.out _ (by repeat (first | exact Below.refl _ _ | assumption | refine bel_drew ?_ | refine bel_drewN ?_ _ | refine bel_alloc ?_ _ | refine bel_trans ?_ (by assumption))))); clear hKW KW; (try simp only [Act.put, List.setIfInBounds_toArray, List.set_cons_zero, List.set_cons_succ])
              refine tk_yes 6 (v := ?_) rfl (by kernel_rfl) (by kernel_rfl) (by kernel_rfl) (fun _ _ _ h => h) (by kernel_rfl) (by assumption) ?_ ?_; rotate_left; (focus (intro w hSw; (try dsimp only at hSw); go_simp; (first | done | (with_reducible rfl)))); (try simp only [Act.put, List.setIfInBounds_toArray, List.set_cons_zero, List.set_cons_succ])
              refine tk_yes 7 (v := ?_) rfl (by kernel_rfl) (by kernel_rfl) (by kernel_rfl) (fun _ _ _ h => h) (by kernel_rfl) (by assumption) ?_ ?_; rotate_left; (focus (intro w hSw; (try dsimp only at hSw); go_simp; (first | done | (with_reducible rfl)))); (try simp only [Act.put, List.setIfInBounds_toArray, List.set_cons_zero, List.set_cons_succ])
              refine tk_yes 8 (v := ?_) rfl (by kernel_rfl) (by kernel_rfl) (by kernel_rfl) (fun _ _ _ h => h) (by kernel_rfl) (by assumption) ?_ ?_; rotate_left; (focus (intro w hSw; (try dsimp only at hSw); go_simp; (first | done | (with_reducible rfl)))); (try simp only [Act.put, List.setIfInBounds_toArray, List.set_cons_zero, List.set_cons_succ])
              refine tk_yes 9 (v := ?_) rfl (by kernel_rfl) (by kernel_rfl) (by kernel_rfl) (fun _ _ _ h => h) (by kernel_rfl) (by assumption) ?_ ?_; rotate_left; (focus (intro w hSw; (try dsimp only at hSw); go_simp; (first | done | (with_reducible rfl)))); (try simp only [Act.put, List.setIfInBounds_toArray, List.set_cons_zero, List.set_cons_succ])
              refine tk_yes 10 (v := ?_) rfl (by kernel_rfl) (by kernel_rfl) (by kernel_rfl) (fun _ _ _ h => h) (by kernel_rfl) (by assumption) ?_ ?_; rotate_left; (focus (intro w hSw; (try dsimp only at hSw); go_simp; (first | done | (with_reducible rfl)))); (try simp only [Act.put, List.setIfInBounds_toArray, List.set_cons_zero, List.set_cons_succ])
              refine tk_yes 11 (v := ?_) rfl (by kernel_rfl) (by kernel_rfl) (by kernel_rfl) (fun _ _ _ h => h) (by kernel_rfl) (by assumption) ?_ ?_; rotate_left; (focus (intro w hSw; (try dsimp only at hSw); go_simp; (first | done | (with_reducible rfl)))); (try simp only [Act.put, List.setIfInBounds_toArray, List.set_cons_zero, List.set_cons_succ])
              refine tk_yes 12 (v := ?_) rfl (by kernel_rfl) (by kernel_rfl) (by kernel_rfl) (fun _ _ _ h => h) (by kernel_rfl) (by assumption) ?_ ?_; rotate_left; (focus (intro w hSw; (try dsimp only at hSw); go_simp; (first | done | (with_reducible rfl)))); (try simp only [Act.put, List.setIfInBounds_toArray, List.set_cons_zero, List.set_cons_succ])
              refine tk_yes 13 (v := ?_) rfl (by kernel_rfl) (by kernel_rfl) (by kernel_rfl) (fun _ _ _ h => h) (by kernel_rfl) (by assumption) ?_ ?_; rotate_left; (focus (intro w hSw; (try dsimp only at hSw); go_simp; (first | done | (with_reducible rfl)))); (try simp only [Act.put, List.setIfInBounds_toArray, List.set_cons_zero, List.set_cons_succ])
              refine tk_call 14 rfl (by kernel_rfl) (by kernel_rfl) (fun KW hKW => ?_); go_simp; go_at_call 47; refine (KC.out _ (by repeat (first | exact Below.refl _ _ | assumption | refine bel_drew ?_ | refine bel_drewN ?_ _ | refine bel_alloc ?_ _ | refine bel_trans ?_ (by assumption)))).mono ?_; rintro e u14 ⟨A3, n3, c3, rfl, i3, hb3⟩; have I3 := Lib.hid i3.1; clear i3; have hq9 := hS.out _ (by repeat (first | exact Below.refl _ _ | assumption | refine bel_drew ?_ | refine bel_drewN ?_ _ | refine bel_alloc ?_ _ | refine bel_trans ?_ (by assumption))); refine hKW.out _ _ ?_ (fun hHeld => ?_); (focus ((try dsimp only); first | exact hq9 | exact hS.out _ (by repeat (first | exact Below.refl _ _ | assumption | refine bel_drew ?_ | refine bel_drewN ?_ _ | refine bel_alloc ?_ _ | refine bel_trans ?_ (by assumption))))); clear hKW KW; (try simp only [Act.put, List.setIfInBounds_toArray, List.set_cons_zero, List.set_cons_succ])
              refine tk_call 15 rfl (by kernel_rfl) (by kernel_rfl) (fun KW hKW => ?_); go_simp; go_at_call 135; refine (ref38_all cv c3 (HOI.out _ (by repeat (first | exact Below.refl _ _ | assumption | refine bel_drew ?_ | refine bel_drewN ?_ _ | refine bel_alloc ?_ _ | refine bel_trans ?_ (by assumption)))) I3.out).mono ?_; rw [E2.out]; rintro e u15 ⟨rfl, rfl⟩; have hq9 := hS.out _ (by repeat (first | exact Below.refl _ _ | assumption | refine bel_drew ?_ | refine bel_drewN ?_ _ | refine bel_alloc ?_ _ | refine bel_trans ?_ (by assumption))); refine hKW.out _ _ ?_ (fun hHeld => ?_); (focus ((try dsimp only); first | exact hq9 | exact hS.out _ (by repeat (first | exact Below.refl _ _ | assumption | refine bel_drew ?_ | refine bel_drewN ?_ _ | refine bel_alloc ?_ _ | refine bel_trans ?_ (by assumption))))); clear hKW KW; (try simp only [Act.put, List.setIfInBounds_toArray, List.set_cons_zero, List.set_cons_succ])
              refine tk_yes 16 (v := ?_) rfl (by kernel_rfl) (by kernel_rfl) (by kernel_rfl) (fun _ _ _ h => h) (by kernel_rfl) (by assumption) ?_ ?_; rotate_left; (focus (intro w hSw; (try dsimp only at hSw); go_simp; (first | done | (with_reducible rfl)))); (try simp only [Act.put, List.setIfInBounds_toArray, List.set_cons_zero, List.set_cons_succ])
              refine wpAnyH_done (by kernel_rfl) ?_ _
              go_wp2_with fail
              go_roundw
              case rel => exact HREL.out _ (by repeat (first | exact Below.refl _ _ | assumption | refine bel_drew ?_ | refine bel_drewN ?_ _ | refine bel_alloc ?_ _ | refine bel_trans ?_ (by assumption)))
              case measure => simp [intOf] <;> omega
            · have E2 : Hid (decide (∀ z ∈ ints (childW N up q), z ∈ ints out) = false) := Lib.hid (decide_eq_false h2)
              have HREL : Hid (∀ W, Below wr.heap.size wr W → FindRel wo L (childW N up) out y (.int .i64 (-1)) (.int .i64 ((k + 1 : Nat) : Int)) W) := Lib.hid (fun W hW => ⟨k + 1, by rw [HLN.out]; omega, rfl, bel_trans' HB9.out hW HB9.out.size, .inl ⟨rfl, fun j hj z hz => by
                rcases Nat.lt_or_ge j k with h2 | h2
                · exact HNO.out j h2 z hz
                · obtain rfl : j = k := by omega
                  rw [HQ2.out] at hz
                  obtain rfl := Option.some.inj hz
                  rw [HOK.out, E2.out]; rfl⟩⟩)
              clear h1 h2
              go_upto_region 8 with (fail)
              refine wp_region_held_drew (S := (fun W : World => W.cell? ⟨w.heap.size, 0, none⟩ = some (.slice Ao n co) ∧ W.cell? ⟨w.heap.size, 1, none⟩ = some (.slice Ag n cg) ∧ W.cell? ⟨w.heap.size, 2, none⟩ = some (.slice Ac m cc) ∧ W.cell? ⟨w.heap.size, 3, none⟩ = some (.int .i64 (fr : Int)) ∧ W.cell? ⟨w.heap.size, 4, none⟩ = some (.slice An N.length cn) ∧ W.cell? ⟨w.heap.size, 5, none⟩ = some (.slice Ap N.length cp) ∧ W.cell? ⟨b, off + k, none⟩ = some (.int .i64 (q : Int)))) (by kernel_rfl) ?_ (fun hHeld => ?_)
              focus ((try dsimp only); first | exact hq9 | exact hS.out _ (by repeat (first | exact Below.refl _ _ | assumption | refine bel_drew ?_ | refine bel_drewN ?_ _ | refine bel_alloc ?_ _ | refine bel_trans ?_ (by assumption))))
              refine tk_yes 0 (v := ?_) rfl (by kernel_rfl) (by kernel_rfl) (by kernel_rfl) (fun _ _ _ h => h) (by kernel_rfl) (by assumption) ?_ ?_; rotate_left; (focus (intro w hSw; (try dsimp only at hSw); go_simp; (first | done | (with_reducible rfl)))); (try simp only [Act.put, List.setIfInBounds_toArray, List.set_cons_zero, List.set_cons_succ])
              refine tk_yes 1 (v := ?_) rfl (by kernel_rfl) (by kernel_rfl) (by kernel_rfl) (fun _ _ _ h => h) (by kernel_rfl) (by assumption) ?_ ?_; rotate_left; (focus (intro w hSw; (try dsimp only at hSw); go_simp; (first | done | (with_reducible rfl)))); (try simp only [Act.put, List.setIfInBounds_toArray, List.set_cons_zero, List.set_cons_succ])
              refine tk_yes 2 (v := ?_) rfl (by kernel_rfl) (by kernel_rfl) (by kernel_rfl) (fun _ _ _ h => h) (by kernel_rfl) (by assumption) ?_ ?_; rotate_left; (focus (intro w hSw; (try dsimp only at hSw); go_simp; (first | done | (with_reducible rfl)))); (try simp only [Act.put, List.setIfInBounds_toArray, List.set_cons_zero, List.set_cons_succ])
              refine tk_yes 3 (v := ?_) rfl (by kernel_rfl) (by kernel_rfl) (by kernel_rfl) (fun _ _ _ h => h) (by kernel_rfl) (by assumption) ?_ ?_; rotate_left; (focus (intro w hSw; (try dsimp only at hSw); go_simp; (first | done | (with_reducible rfl)))); (try simp only [Act.put, List.setIfInBounds_toArray, List.set_cons_zero, List.set_cons_succ])
              refine tk_yes 4 (v := ?_) rfl (by kernel_rfl) (by kernel_rfl) (by kernel_rfl) (fun _ _ _ h => h) (by kernel_rfl) (by assumption) ?_ ?_; rotate_left; (focus (intro w hSw; (try dsimp only at hSw); go_simp; (first | done | (with_reducible rfl)))); (try simp only [Act.put, List.setIfInBounds_toArray, List.set_cons_zero, List.set_cons_succ])
              refine tk_call 5 rfl (by kernel_rfl) (by kernel_rfl) (fun KW hKW => ?_); go_simp; go_at_call 134; refine (KH.out _ (by repeat (first | exact Below.refl _ _ | assumption | refine bel_drew ?_ | refine bel_drewN ?_ _ | refine bel_alloc ?_ _ | refine bel_trans ?_ (by assumption)))).mono ?_; rintro e u5 ⟨rfl, rfl⟩; have hq9 := hS.out _ (by repeat (first | exact Below.refl _ _ | assumption | refine bel_drew ?_ | refine bel_drewN ?_ _ | refine bel_alloc ?_ _ | refine bel_trans ?_ (by assumption))); refine hKW.out _ _ ?_ (fun hHeld => ?_); (focus ((try dsimp only); first | exact hq9 | exact hS.out _ (by repeat (first | exact Below.refl _ _ | assumption | refine bel_drew ?_ | refine bel_drewN ?_ _ | refine bel_alloc ?_ _ | refine bel_trans ?_ (by assumption))))); clear hKW KW; (try simp only [Act.put, List.setIfInBounds_toArray, List.set_cons_zero, List.set_cons_succ])
              refine tk_yes 6 (v := ?_) rfl (by kernel_rfl) (by kernel_rfl) (by kernel_rfl) (fun _ _ _ h => h) (by kernel_rfl) (by assumption) ?_ ?_; rotate_left; (focus (intro w hSw; (try dsimp only at hSw); go_simp; (first | done | (with_reducible rfl)))); (try simp only [Act.put, List.setIfInBounds_toArray, List.set_cons_zero, List.set_cons_succ])
              refine tk_yes 7 (v := ?_) rfl (by kernel_rfl) (by kernel_rfl) (by kernel_rfl) (fun _ _ _ h => h) (by kernel_rfl) (by assumption) ?_ ?_; rotate_left; (focus (intro w hSw; (try dsimp only at hSw); go_simp; (first | done | (with_reducible rfl)))); (try simp only [Act.put, List.setIfInBounds_toArray, List.set_cons_zero, List.set_cons_succ])
              refine tk_yes 8 (v := ?_) rfl (by kernel_rfl) (by kernel_rfl) (by kernel_rfl) (fun _ _ _ h => h) (by kernel_rfl) (by assumption) ?_ ?_; rotate_left; (focus (intro w hSw; (try dsimp only at hSw); go_simp; (first | done | (with_reducible rfl)))); (try simp only [Act.put, List.setIfInBounds_toArray, List.set_cons_zero, List.set_cons_succ])
              refine tk_yes 9 (v := ?_) rfl (by kernel_rfl) (by kernel_rfl) (by kernel_rfl) (fun _ _ _ h => h) (by kernel_rfl) (by assumption) ?_ ?_; rotate_left; (focus (intro w hSw; (try dsimp only at hSw); go_simp; (first | done | (with_reducible rfl)))); (try simp only [Act.put, List.setIfInBounds_toArray, List.set_cons_zero, List.set_cons_succ])
              refine tk_yes 10 (v := ?_) rfl (by kernel_rfl) (by kernel_rfl) (by kernel_rfl) (fun _ _ _ h => h) (by kernel_rfl) (by assumption) ?_ ?_; rotate_left; (focus (intro w hSw; (try dsimp only at hSw); go_simp; (first | done | (with_reducible rfl)))); (try simp only [Act.put, List.setIfInBounds_toArray, List.set_cons_zero, List.set_cons_succ])
              refine tk_yes 11 (v := ?_) rfl (by kernel_rfl) (by kernel_rfl) (by kernel_rfl) (fun _ _ _ h => h) (by kernel_rfl) (by assumption) ?_ ?_; rotate_left; (focus (intro w hSw; (try dsimp only at hSw); go_simp; (first | done | (with_reducible rfl)))); (try simp only [Act.put, List.setIfInBounds_toArray, List.set_cons_zero, List.set_cons_succ])
              refine tk_yes 12 (v := ?_) rfl (by kernel_rfl) (by kernel_rfl) (by kernel_rfl) (fun _ _ _ h => h) (by kernel_rfl) (by assumption) ?_ ?_; rotate_left; (focus (intro w hSw; (try dsimp only at hSw); go_simp; (first | done | (with_reducible rfl)))); (try simp only [Act.put, List.setIfInBounds_toArray, List.set_cons_zero, List.set_cons_succ])
              refine tk_yes 13 (v := ?_) rfl (by kernel_rfl) (by kernel_rfl) (by kernel_rfl) (fun _ _ _ h => h) (by kernel_rfl) (by assumption) ?_ ?_; rotate_left; (focus (intro w hSw; (try dsimp only at hSw); go_simp; (first | done | (with_reducible rfl)))); (try simp only [Act.put, List.setIfInBounds_toArray, List.set_cons_zero, List.set_cons_succ])
              refine tk_call 14 rfl (by kernel_rfl) (by kernel_rfl) (fun KW hKW => ?_); go_simp; go_at_call 47; refine (KC.out _ (by repeat (first | exact Below.refl _ _ | assumption | refine bel_drew ?_ | refine bel_drewN ?_ _ | refine bel_alloc ?_ _ | refine bel_trans ?_ (by assumption)))).mono ?_; rintro e u14 ⟨A3, n3, c3, rfl, i3, hb3⟩; have I3 := Lib.hid i3.1; clear i3; have hq9 := hS.out _ (by repeat (first | exact Below.refl _ _ | assumption | refine bel_drew ?_ | refine bel_drewN ?_ _ | refine bel_alloc ?_ _ | refine bel_trans ?_ (by assumption))); refine hKW.out _ _ ?_ (fun hHeld => ?_); (focus ((try dsimp only); first | exact hq9 | exact hS.out _ (by repeat (first | exact Below.refl _ _ | assumption | refine bel_drew ?_ | refine bel_drewN ?_ _ | refine bel_alloc ?_ _ | refine bel_trans ?_ (by assumption))))); clear hKW KW; (try simp only [Act.put, List.setIfInBounds_toArray, List.set_cons_zero, List.set_cons_succ])
              refine tk_call 15 rfl (by kernel_rfl) (by kernel_rfl) (fun KW hKW => ?_); go_simp; go_at_call 135; refine (ref38_all cv c3 (HOI.out _ (by repeat (first | exact Below.refl _ _ | assumption | refine bel_drew ?_ | refine bel_drewN ?_ _ | refine bel_alloc ?_ _ | refine bel_trans ?_ (by assumption)))) I3.out).mono ?_; rw [E2.out]; rintro e u15 ⟨rfl, rfl⟩; have hq9 := hS.out _ (by repeat (first | exact Below.refl _ _ | assumption | refine bel_drew ?_ | refine bel_drewN ?_ _ | refine bel_alloc ?_ _ | refine bel_trans ?_ (by assumption))); refine hKW.out _ _ ?_ (fun hHeld => ?_); (focus ((try dsimp only); first | exact hq9 | exact hS.out _ (by repeat (first | exact Below.refl _ _ | assumption | refine bel_drew ?_ | refine bel_drewN ?_ _ | refine bel_alloc ?_ _ | refine bel_trans ?_ (by assumption))))); clear hKW KW; (try simp only [Act.put, List.setIfInBounds_toArray, List.set_cons_zero, List.set_cons_succ])
              refine tk_yes 16 (v := ?_) rfl (by kernel_rfl) (by kernel_rfl) (by kernel_rfl) (fun _ _ _ h => h) (by kernel_rfl) (by assumption) ?_ ?_; rotate_left; (focus (intro w hSw; (try dsimp only at hSw); go_simp; (first | done | (with_reducible rfl)))); (try simp only [Act.put, List.setIfInBounds_toArray, List.set_cons_zero, List.set_cons_succ])
              refine wpAnyH_done (by kernel_rfl) ?_ _
              go_wp2_with fail
              go_roundw
              case rel => exact HREL.out _ (by repeat (first | exact Below.refl _ _ | assumption | refine bel_drew ?_ | refine bel_drewN ?_ _ | refine bel_alloc ?_ _ | refine bel_trans ?_ (by assumption)))
              case measure => simp [intOf] <;> omega
        · have g5 : ¬ (j : Int) < 0 := by omega
          have g6 : (0 : Int) ≤ (j : Int) := by omega
          have i9 := I1.out.keep B9.out
          rw [HLN.out] at hj
          obtain ⟨b, off, rfl, hbl, hcell⟩ := i9.2.2 (by omega)
          have x0 := hcell j hj
          have hq3 : (ints L).getD j 0 = (y : Int) := by
            have : L[j]'(by rw [HLN.out]; exact hj) = y := by rw [List.getElem?_eq_getElem (by rw [HLN.out]; exact hj)] at hy; exact Option.some.inj hy
            rw [← this]; simp [ints, List.getD, show j < L.length by rw [HLN.out]; exact hj]
          rw [hq3] at x0
          have g7 : (j : Int) < (n1 : Int) := by omega
          have HO9 := Lib.hid (HO1.out.keep HB9.out)
          have HT2 : Hid (ints out ++ [(y : Int)] = ints (out ++ [y])) := Lib.hid (by rw [ints_app]; rfl)
          clear hcell i9 hq3 hy hj
          by_cases hkn : (k : Int) < (n1 : Int)
          · skip
            go_wp2_with (at_builtin; refine app_listI rfl (.tmp 45) (.tmp 50) rfl w1.heap.size _ (ints out) rfl (HO9.out.keep (bel_alloc (Below.refl _ _) _)) (some ⟨wr.heap.size, 0, none⟩) 1 1 [(y : Int)] rfl (src_oneI (by simp [go_sem])) (by rw [HOL.out]; omega) (by have := B9.out.size; simp; omega) ?_; intro V9 W8 ho9 hb9; rw [HT2.out] at ho9; have HO10 := Lib.hid ho9; have B10 := Lib.hid ((bel_alloc B9.out _).trans hb9); clear ho9 hb9)
            go_roundw
            case rel => exact ⟨out ++ [y], bb, HO10.out, HE2.out, B10.out⟩
            case measure =>
              obtain ⟨A9, c9, h9⟩ := own_shape HO10.out
              have e9 : vlen V9 = ol + 1 := by rw [h9]; show (ints (out ++ [y])).length = _; rw [← HT2.out, List.length_append, HOL.out]; rfl
              have := HOLT.out
              have := HAL.out
              show all.length - vlen V9 < all.length - ol
              omega
          · skip
            go_wp2_with (at_builtin; refine app_listI rfl (.tmp 45) (.tmp 50) rfl w1.heap.size _ (ints out) rfl (HO9.out.keep (bel_alloc (Below.refl _ _) _)) (some ⟨wr.heap.size, 0, none⟩) 1 1 [(y : Int)] rfl (src_oneI (by simp [go_sem])) (by rw [HOL.out]; omega) (by have := B9.out.size; simp; omega) ?_; intro V9 W8 ho9 hb9; rw [HT2.out] at ho9; have HO10 := Lib.hid ho9; have B10 := Lib.hid ((bel_alloc B9.out _).trans hb9); clear ho9 hb9)
            go_roundw
            case rel => exact ⟨out ++ [y], bb, HO10.out, HE2.out, B10.out⟩
            case measure =>
              obtain ⟨A9, c9, h9⟩ := own_shape HO10.out
              have e9 : vlen V9 = ol + 1 := by rw [h9]; show (ints (out ++ [y])).length = _; rw [← HT2.out, List.length_append, HOL.out]; rfl
              have := HOLT.out
              have := HAL.out
              show all.length - vlen V9 < all.length - ol
              omega
end Go.Proofs.Ytdhcmnbajkpjiaa
/-
  Layer 40 (region): regions in memory; New, is.
-/
namespace Go.Proofs.Ytdhcmnbajkpjiaa
open Go.RowKit
set_option linter.unusedVariables false
set_option linter.unusedSimpArgs false
attribute [local go_sem] drewN_alloc drewN_setCell

variable {w0 w w' : World}
/-- A block of the call's own holds these cells. -/
def RowR (w : World) (g : Nat) (t : TypeId) (cs : List Value) : Prop := w.heap[g]? = some (.cells cs.toArray t (0, 0))
theorem RowR.cell {g : Nat} {t : TypeId} {cs : List Value} (h : RowR w g t cs) (i : Nat) : w.cell? ⟨g, i, none⟩ = cs[i]? := by
  unfold RowR at h
  simp [World.cell?, h]
theorem RowR.frozen {g : Nat} {t : TypeId} {cs : List Value} (h : RowR w g t cs) (i : Nat) : w.frozen? ⟨g, i, none⟩ = false := by
  unfold RowR at h
  simp [World.frozen?, h]
theorem RowR.of_block {g : Nat} {t : TypeId} {cs : List Value} (h : RowR w g t cs) (e : w'.heap[g]? = w.heap[g]?) : RowR w' g t cs := e.trans h
theorem RowR.lt {g : Nat} {t : TypeId} {cs : List Value} (h : RowR w g t cs) : g < w.heap.size := (Array.getElem?_eq_some_iff.1 h).1
theorem RowR.keep {g : Nat} {t : TypeId} {cs : List Value} (h : RowR w g t cs) (hb : Below w.heap.size w w') : RowR w' g t cs := h.of_block (hb.block g h.lt)
theorem RowR.new (w : World) (t : TypeId) (cs : List Value) : RowR (w.alloc (.cells cs.toArray t)) w.heap.size t cs := World.alloc_heap_new _ _
/-- What a region has, in the map: its client, the slice of its chunks, the cursor. -/
def regV (c : Int) (v : Value) (k : Int) : Value := .agg #[.int .i64 c, v, .int .i64 k]
/-- Regions made since w0: the struct's block tb, the map's block mb, the forest's blocks and each region's chunks are the call's own. st: what each place has (client, chunks, cursor). -/
structure TreesAt (w0 w : World) (tb mb Fb : Nat) (own : Nat → Prop) (S : FSt) (k : Nat) (f : Int → Option Value) (st : Int → Option (Int × List Int × Int)) : Prop where
  row : RowR w tb 120 [.pointer (some ⟨Fb, 0, none⟩), .map (some mb)]
  map : RMapAt w mb k f
  forest : ForestOver w0 w own Fb 4096 S
  far : tb ≠ mb ∧ ¬ own tb ∧ ¬ own mb ∧ w0.heap.size ≤ tb ∧ w0.heap.size ≤ mb
  vals : ∀ x, (f x = none ∧ st x = none) ∨ ∃ c v l cur, f x = some (regV c v cur) ∧ st x = some (c, l, cur) ∧ OwnI w0.heap.size w v l ∧ ∀ j, v.ownBlock = some j → j ≠ tb ∧ j ≠ mb ∧ ¬ own j
def NewTrees (w : World) (e : Ending) (w' : World) : Prop :=
  ∃ tb mb Fb own, e = .returned (.pointer (some ⟨tb, 0, none⟩)) ∧ TreesAt w w' tb mb Fb own (FSt.new 4096) 0 (fun _ => none) (fun _ => none)
set_option maxRecDepth 100000 in
theorem region_New (w : World) : Calls Try.prog 90 #[] w (NewTrees w) := by
  have K := Lib.hid (overf_New 4096 w (by omega))
  go_enter Try.func90, Try.ntmps90
  go_wp2_with fail
  refine K.out.mono ?_
  rintro e w1 ⟨Fb, own, rfl, hf⟩
  have HF := Lib.hid hf
  clear hf
  have hmk : ∀ W : World, (Instr.makeMap 118 none).run Try.prog W = .ok (.map (some W.heap.size)) (W.alloc (.map #[] 0)) := fun W => by kernel_rfl
  go_wp2_with fail
  obtain ⟨W, hW⟩ : ∃ W, (w1.alloc (.map #[] 0)).alloc (.cells #[.pointer (some ⟨Fb, 0, none⟩), .map (some w1.heap.size)] 120) = W := ⟨_, rfl⟩
  rw [hW]
  have b1 := HF.out.below
  have hb : Below w1.heap.size w1 W := by rw [← hW]; exact bel_alloc (bel_alloc (Below.refl _ _) _) _
  have rT : RowR W (w1.heap.size + 1) 120 [.pointer (some ⟨Fb, 0, none⟩), .map (some w1.heap.size)] := by
    have := RowR.new (w1.alloc (.map #[] 0)) 120 [.pointer (some ⟨Fb, 0, none⟩), .map (some w1.heap.size)]
    rw [World.size_alloc] at this
    rw [← hW]; exact this
  have rM : RMapAt W w1.heap.size 0 (fun _ => none) := (RMapAt.made w1).of_block (by rw [← hW]; exact Below.heap_alloc _ _ _ (by simp))
  have hs := b1.size
  refine bodyPost_ret (v := .pointer (some ⟨w1.heap.size + 1, 0, none⟩)) (by simp [results, Try.results90, go_sem]) rfl ⟨_, _, Fb, own, rfl, ⟨rT, rM, HF.out.keep hb, ⟨by omega, fun e => ?_, fun e => ?_, by omega, hs⟩, fun x => .inl ⟨rfl, rfl⟩⟩⟩
  · have := (HF.out.fresh _ e).2; omega
  · have := (HF.out.fresh _ e).2; omega
end Go.Proofs.Ytdhcmnbajkpjiaa
/-
  Layer 40 (region): is.
-/
namespace Go.Proofs.Ytdhcmnbajkpjiaa
open Go.RowKit
open Go.Op
set_option linter.unusedVariables false
set_option linter.unusedSimpArgs false
attribute [local go_sem] drewN_alloc drewN_setCell

variable {w0 w w' : World}
theorem map_neq_nil (b : Nat) (w : World) : (binOp BinOp.neq 118 (.map (some b)) (.map none)).run Try.prog w = .ok (.bool true) w := by kernel_rfl
set_option maxRecDepth 100000 in
theorem region_is {tb mb Fb k : Nat} {own : Nat → Prop} {S : FSt} {f : Int → Option Value} {st : Int → Option (Int × List Int × Int)} (h : TreesAt w0 w tb mb Fb own S k f st) :
    Calls Try.prog 143 #[.pointer (some ⟨tb, 0, none⟩)] w fun e w' => e = .returned (.bool true) ∧ w = w' := by
  have c1 : w.cell? ⟨tb, 1, none⟩ = some (.map (some mb)) := (h.row.cell 1).trans rfl
  have HN := map_neq_nil mb
  clear h
  go_enter Try.func143, Try.ntmps143
  go_wp2_with fail
  exact bodyPost_ret (v := .bool true) (by simp [results, Try.results143, go_sem]) rfl ⟨rfl, rfl⟩
end Go.Proofs.Ytdhcmnbajkpjiaa
/-
  Handles, as numbers: plain arithmetic.
-/
namespace Go.Proofs.Ytdhcmnbajkpjiaa.PH

def put (k p g o : Int) : Int × Int :=
  if k < 1 ∨ 3 < k then (0, 1)
  else if (p < 0 ∨ 1048575 < p) ∨ (g < 0 ∨ 1048575 < g) ∨ (o < 0 ∨ 1048575 < o) then (0, 6)
  else (((k * 1048576 + p) * 1048576 + g) * 1048576 + o, 0)

theorem put_kind {k p g o : Int} (h : k < 1 ∨ 3 < k) : put k p g o = (0, 1) := by unfold put; rw [if_pos h]
theorem put_over {k p g o : Int} (h1 : 1 ≤ k) (h2 : k ≤ 3) (h : (p < 0 ∨ 1048575 < p) ∨ (g < 0 ∨ 1048575 < g) ∨ (o < 0 ∨ 1048575 < o)) : put k p g o = (0, 6) := by
  unfold put; rw [if_neg (by omega), if_pos h]
theorem put_good {k p g o : Int} (h1 : 1 ≤ k) (h2 : k ≤ 3) (hp : 0 ≤ p ∧ p ≤ 1048575) (hg : 0 ≤ g ∧ g ≤ 1048575) (ho : 0 ≤ o ∧ o ≤ 1048575) :
    put k p g o = (k * 1152921504606846976 + p * 1099511627776 + g * 1048576 + o, 0) := by
  unfold put; rw [if_neg (by omega), if_neg (by omega)]; congr 1; omega

/-- kind, place, generation, offset, and whether there is a handle. -/
def getK (h : Int) : Int := h / 1152921504606846976
def get (h : Int) : (Int × Int × Int × Int) × Bool :=
  if h < 0 ∨ h / 1152921504606846976 < 1 ∨ 3 < h / 1152921504606846976 then ((0, 0, 0, 0), false)
  else ((h / 1152921504606846976, h / 1099511627776 % 1048576, h / 1048576 % 1048576, h % 1048576), true)
theorem get_no {h : Int} (hh : h < 0 ∨ h / 1152921504606846976 < 1 ∨ 3 < h / 1152921504606846976) : get h = ((0, 0, 0, 0), false) := by unfold get; rw [if_pos hh]
theorem get_yes {h : Int} (h0 : 0 ≤ h) (h1 : 1 ≤ h / 1152921504606846976) (h2 : h / 1152921504606846976 ≤ 3) :
    get h = ((h / 1152921504606846976, h / 1099511627776 % 1048576, h / 1048576 % 1048576, h % 1048576), true) := by unfold get; rw [if_neg (by omega)]
def is (h kind : Int) : Bool := (get h).2 && ((get h).1.1 == kind)
theorem get_put {k p g o : Int} (e : (put k p g o).2 = 0) : get (put k p g o).1 = ((k, p, g, o), true) ∧ 0 < (put k p g o).1 := by
  by_cases h1 : k < 1 ∨ 3 < k
  · rw [put_kind h1] at e; cases e
  by_cases h2 : (p < 0 ∨ 1048575 < p) ∨ (g < 0 ∨ 1048575 < g) ∨ (o < 0 ∨ 1048575 < o)
  · rw [put_over (by omega) (by omega) h2] at e; cases e
  rw [put_good (by omega) (by omega) (by omega) (by omega) (by omega)]
  refine ⟨?_, by show 0 < _; omega⟩
  rw [get_yes (by show 0 ≤ _; omega) (by show 1 ≤ _; omega) (by show _ ≤ 3; omega)]
  refine Prod.ext (Prod.ext ?_ (Prod.ext ?_ (Prod.ext ?_ ?_))) rfl <;> (dsimp only; omega)
theorem put_get {h : Int} (e : (get h).2 = true) : put (get h).1.1 (get h).1.2.1 (get h).1.2.2.1 (get h).1.2.2.2 = (h, 0) := by
  by_cases hh : h < 0 ∨ h / 1152921504606846976 < 1 ∨ 3 < h / 1152921504606846976
  · rw [get_no hh] at e; cases e
  rw [get_yes (by omega) (by omega) (by omega)]
  dsimp only
  rw [put_good (by omega) (by omega) (by omega) (by omega) (by omega)]
  congr 1
  omega
theorem put_inj {k p g o k' p' g' o' : Int} (e : (put k p g o).2 = 0) (e' : (put k' p' g' o').2 = 0) : ((put k p g o).1 = (put k' p' g' o').1) ↔ (k = k' ∧ p = p' ∧ g = g' ∧ o = o') := by
  constructor
  · intro h
    have a := (get_put e).1
    have b := (get_put e').1
    rw [h, b] at a
    simp only [Prod.mk.injEq] at a
    omega
  · rintro ⟨rfl, rfl, rfl, rfl⟩
    rfl
theorem put_range (k p g o : Int) : 0 ≤ (put k p g o).1 ∧ (put k p g o).1 ≤ 9223372036854775807 ∧ 0 ≤ (put k p g o).2 ∧ (put k p g o).2 ≤ 6 := by
  by_cases h1 : k < 1 ∨ 3 < k
  · rw [put_kind h1]; simp
  by_cases h2 : (p < 0 ∨ 1048575 < p) ∨ (g < 0 ∨ 1048575 < g) ∨ (o < 0 ∨ 1048575 < o)
  · rw [put_over (by omega) (by omega) h2]; simp
  rw [put_good (by omega) (by omega) (by omega) (by omega) (by omega)]
  dsimp only
  omega
end Go.Proofs.Ytdhcmnbajkpjiaa.PH
/-
  Closed facts on handle's parts.
-/
-- not imported: Prog
namespace Go.Proofs.Ytdhcmnbajkpjiaa
open Go.RowKit

abbrev partsV : Value := .agg #[.int .i64 60, .int .i64 1, .int .i64 3, .int .i64 40, .int .i64 0, .int .i64 1048575, .int .i64 20, .int .i64 0, .int .i64 1048575, .int .i64 0, .int .i64 0, .int .i64 1048575]
theorem parts0 (w : World) : (Instr.index 181 partsV (.int .i64 0)).run Try.prog w = .ok (.agg #[.int .i64 60, .int .i64 1, .int .i64 3]) w := by kernel_rfl
theorem parts1 (w : World) : (Instr.index 181 partsV (.int .i64 1)).run Try.prog w = .ok (.agg #[.int .i64 40, .int .i64 0, .int .i64 1048575]) w := by kernel_rfl
theorem parts2 (w : World) : (Instr.index 181 partsV (.int .i64 2)).run Try.prog w = .ok (.agg #[.int .i64 20, .int .i64 0, .int .i64 1048575]) w := by kernel_rfl
theorem parts3 (w : World) : (Instr.index 181 partsV (.int .i64 3)).run Try.prog w = .ok (.agg #[.int .i64 0, .int .i64 0, .int .i64 1048575]) w := by kernel_rfl

end Go.Proofs.Ytdhcmnbajkpjiaa
/-
  Walks of handle.Put.
-/
namespace Go.Proofs.Ytdhcmnbajkpjiaa
open Go.RowKit

set_option maxHeartbeats 1000000 in
theorem handle_Put_good (k p g o : Int) (w : World) (k1 : 1 ≤ k) (k2 : k ≤ 3) (p1 : 0 ≤ p) (p2 : p ≤ 1048575) (g1 : 0 ≤ g) (g2 : g ≤ 1048575) (o1 : 0 ≤ o) (o2 : o ≤ 1048575) :
    Calls Try.prog 150 #[.int .i64 k, .int .i64 p, .int .i64 g, .int .i64 o] w fun e w' =>
      e = .returned (.tuple #[.int .i64 (k * 1152921504606846976 + p * 1099511627776 + g * 1048576 + o), .int .i64 0]) ∧ Below w.heap.size w w' := by
  go_enter Try.func150, Try.ntmps150
  go_wp2
  have i0 := parts0
  have i1 := parts1
  have i2 := parts2
  have i3 := parts3
  unfold partsV at i0 i1 i2 i3
  refine wp_loop_rounds 5 ?_
  rw [rounds_succ]
  go_wp2
  go_quiet (fail)
  go_wp2
  go_quiet (fail)
  go_wp2
  rw [rounds_succ]
  go_wp2
  go_quiet (fail)
  go_wp2
  go_quiet (fail)
  go_wp2
  rw [rounds_succ]
  go_wp2
  go_quiet (fail)
  go_wp2
  go_quiet (fail)
  go_wp2
  rw [rounds_succ]
  go_wp2
  go_quiet (fail)
  go_wp2
  go_quiet (fail)
  go_wp2
  rw [rounds_succ]
  go_wp2
  go_ret2
  exact ⟨rfl, (by repeat (first | exact Below.refl _ _ | assumption | refine bel_drew ?_ | refine bel_drewN ?_ _ | refine bel_alloc ?_ _ | refine bel_set ?_ (by first | (dsimp only; omega) | (simp; done) | (simp; omega)) _ | refine bel_trans ?_ (by assumption)))⟩

set_option maxHeartbeats 1000000 in
theorem handle_Put_k1 (k p g o : Int) (w : World) (k1 : decide (1 ≤ k) = false) :
    Calls Try.prog 150 #[.int .i64 k, .int .i64 p, .int .i64 g, .int .i64 o] w fun e w' =>
      e = .returned (.tuple #[.int .i64 0, .int .i64 1]) ∧ Below w.heap.size w w' := by
  go_enter Try.func150, Try.ntmps150
  go_wp2
  have i0 := parts0
  have i1 := parts1
  have i2 := parts2
  have i3 := parts3
  unfold partsV at i0 i1 i2 i3
  refine wp_loop_rounds 5 ?_
  rw [rounds_succ]
  go_wp2
  go_quiet (fail)
  go_wp2
  go_ret2
  exact ⟨rfl, (by repeat (first | exact Below.refl _ _ | assumption | refine bel_drew ?_ | refine bel_drewN ?_ _ | refine bel_alloc ?_ _ | refine bel_set ?_ (by first | (dsimp only; omega) | (simp; done) | (simp; omega)) _ | refine bel_trans ?_ (by assumption)))⟩

set_option maxHeartbeats 1000000 in
theorem handle_Put_k2 (k p g o : Int) (w : World) (k1 : 1 ≤ k) (k2 : decide (k ≤ 3) = false) :
    Calls Try.prog 150 #[.int .i64 k, .int .i64 p, .int .i64 g, .int .i64 o] w fun e w' =>
      e = .returned (.tuple #[.int .i64 0, .int .i64 1]) ∧ Below w.heap.size w w' := by
  go_enter Try.func150, Try.ntmps150
  go_wp2
  have i0 := parts0
  have i1 := parts1
  have i2 := parts2
  have i3 := parts3
  unfold partsV at i0 i1 i2 i3
  refine wp_loop_rounds 5 ?_
  rw [rounds_succ]
  go_wp2
  go_quiet (fail)
  go_wp2
  go_ret2
  exact ⟨rfl, (by repeat (first | exact Below.refl _ _ | assumption | refine bel_drew ?_ | refine bel_drewN ?_ _ | refine bel_alloc ?_ _ | refine bel_set ?_ (by first | (dsimp only; omega) | (simp; done) | (simp; omega)) _ | refine bel_trans ?_ (by assumption)))⟩

set_option maxHeartbeats 1000000 in
theorem handle_Put_p1 (k p g o : Int) (w : World) (k1 : 1 ≤ k) (k2 : k ≤ 3) (p1 : decide (0 ≤ p) = false) :
    Calls Try.prog 150 #[.int .i64 k, .int .i64 p, .int .i64 g, .int .i64 o] w fun e w' =>
      e = .returned (.tuple #[.int .i64 0, .int .i64 6]) ∧ Below w.heap.size w w' := by
  go_enter Try.func150, Try.ntmps150
  go_wp2
  have i0 := parts0
  have i1 := parts1
  have i2 := parts2
  have i3 := parts3
  unfold partsV at i0 i1 i2 i3
  refine wp_loop_rounds 5 ?_
  rw [rounds_succ]
  go_wp2
  go_quiet (fail)
  go_wp2
  go_quiet (fail)
  go_wp2
  rw [rounds_succ]
  go_wp2
  go_quiet (fail)
  go_wp2
  go_ret2
  exact ⟨rfl, (by repeat (first | exact Below.refl _ _ | assumption | refine bel_drew ?_ | refine bel_drewN ?_ _ | refine bel_alloc ?_ _ | refine bel_set ?_ (by first | (dsimp only; omega) | (simp; done) | (simp; omega)) _ | refine bel_trans ?_ (by assumption)))⟩

set_option maxHeartbeats 1000000 in
theorem handle_Put_p2 (k p g o : Int) (w : World) (k1 : 1 ≤ k) (k2 : k ≤ 3) (p1 : 0 ≤ p) (p2 : decide (p ≤ 1048575) = false) :
    Calls Try.prog 150 #[.int .i64 k, .int .i64 p, .int .i64 g, .int .i64 o] w fun e w' =>
      e = .returned (.tuple #[.int .i64 0, .int .i64 6]) ∧ Below w.heap.size w w' := by
  go_enter Try.func150, Try.ntmps150
  go_wp2
  have i0 := parts0
  have i1 := parts1
  have i2 := parts2
  have i3 := parts3
  unfold partsV at i0 i1 i2 i3
  refine wp_loop_rounds 5 ?_
  rw [rounds_succ]
  go_wp2
  go_quiet (fail)
  go_wp2
  go_quiet (fail)
  go_wp2
  rw [rounds_succ]
  go_wp2
  go_quiet (fail)
  go_wp2
  go_ret2
  exact ⟨rfl, (by repeat (first | exact Below.refl _ _ | assumption | refine bel_drew ?_ | refine bel_drewN ?_ _ | refine bel_alloc ?_ _ | refine bel_set ?_ (by first | (dsimp only; omega) | (simp; done) | (simp; omega)) _ | refine bel_trans ?_ (by assumption)))⟩

set_option maxHeartbeats 1000000 in
theorem handle_Put_g1 (k p g o : Int) (w : World) (k1 : 1 ≤ k) (k2 : k ≤ 3) (p1 : 0 ≤ p) (p2 : p ≤ 1048575) (g1 : decide (0 ≤ g) = false) :
    Calls Try.prog 150 #[.int .i64 k, .int .i64 p, .int .i64 g, .int .i64 o] w fun e w' =>
      e = .returned (.tuple #[.int .i64 0, .int .i64 6]) ∧ Below w.heap.size w w' := by
  go_enter Try.func150, Try.ntmps150
  go_wp2
  have i0 := parts0
  have i1 := parts1
  have i2 := parts2
  have i3 := parts3
  unfold partsV at i0 i1 i2 i3
  refine wp_loop_rounds 5 ?_
  rw [rounds_succ]
  go_wp2
  go_quiet (fail)
  go_wp2
  go_quiet (fail)
  go_wp2
  rw [rounds_succ]
  go_wp2
  go_quiet (fail)
  go_wp2
  go_quiet (fail)
  go_wp2
  rw [rounds_succ]
  go_wp2
  go_quiet (fail)
  go_wp2
  go_ret2
  exact ⟨rfl, (by repeat (first | exact Below.refl _ _ | assumption | refine bel_drew ?_ | refine bel_drewN ?_ _ | refine bel_alloc ?_ _ | refine bel_set ?_ (by first | (dsimp only; omega) | (simp; done) | (simp; omega)) _ | refine bel_trans ?_ (by assumption)))⟩

set_option maxHeartbeats 1000000 in
theorem handle_Put_g2 (k p g o : Int) (w : World) (k1 : 1 ≤ k) (k2 : k ≤ 3) (p1 : 0 ≤ p) (p2 : p ≤ 1048575) (g1 : 0 ≤ g) (g2 : decide (g ≤ 1048575) = false) :
    Calls Try.prog 150 #[.int .i64 k, .int .i64 p, .int .i64 g, .int .i64 o] w fun e w' =>
      e = .returned (.tuple #[.int .i64 0, .int .i64 6]) ∧ Below w.heap.size w w' := by
  go_enter Try.func150, Try.ntmps150
  go_wp2
  have i0 := parts0
  have i1 := parts1
  have i2 := parts2
  have i3 := parts3
  unfold partsV at i0 i1 i2 i3
  refine wp_loop_rounds 5 ?_
  rw [rounds_succ]
  go_wp2
  go_quiet (fail)
  go_wp2
  go_quiet (fail)
  go_wp2
  rw [rounds_succ]
  go_wp2
  go_quiet (fail)
  go_wp2
  go_quiet (fail)
  go_wp2
  rw [rounds_succ]
  go_wp2
  go_quiet (fail)
  go_wp2
  go_ret2
  exact ⟨rfl, (by repeat (first | exact Below.refl _ _ | assumption | refine bel_drew ?_ | refine bel_drewN ?_ _ | refine bel_alloc ?_ _ | refine bel_set ?_ (by first | (dsimp only; omega) | (simp; done) | (simp; omega)) _ | refine bel_trans ?_ (by assumption)))⟩

set_option maxHeartbeats 1000000 in
theorem handle_Put_o1 (k p g o : Int) (w : World) (k1 : 1 ≤ k) (k2 : k ≤ 3) (p1 : 0 ≤ p) (p2 : p ≤ 1048575) (g1 : 0 ≤ g) (g2 : g ≤ 1048575) (o1 : decide (0 ≤ o) = false) :
    Calls Try.prog 150 #[.int .i64 k, .int .i64 p, .int .i64 g, .int .i64 o] w fun e w' =>
      e = .returned (.tuple #[.int .i64 0, .int .i64 6]) ∧ Below w.heap.size w w' := by
  go_enter Try.func150, Try.ntmps150
  go_wp2
  have i0 := parts0
  have i1 := parts1
  have i2 := parts2
  have i3 := parts3
  unfold partsV at i0 i1 i2 i3
  refine wp_loop_rounds 5 ?_
  rw [rounds_succ]
  go_wp2
  go_quiet (fail)
  go_wp2
  go_quiet (fail)
  go_wp2
  rw [rounds_succ]
  go_wp2
  go_quiet (fail)
  go_wp2
  go_quiet (fail)
  go_wp2
  rw [rounds_succ]
  go_wp2
  go_quiet (fail)
  go_wp2
  go_quiet (fail)
  go_wp2
  rw [rounds_succ]
  go_wp2
  go_quiet (fail)
  go_wp2
  go_ret2
  exact ⟨rfl, (by repeat (first | exact Below.refl _ _ | assumption | refine bel_drew ?_ | refine bel_drewN ?_ _ | refine bel_alloc ?_ _ | refine bel_set ?_ (by first | (dsimp only; omega) | (simp; done) | (simp; omega)) _ | refine bel_trans ?_ (by assumption)))⟩

set_option maxHeartbeats 1000000 in
theorem handle_Put_o2 (k p g o : Int) (w : World) (k1 : 1 ≤ k) (k2 : k ≤ 3) (p1 : 0 ≤ p) (p2 : p ≤ 1048575) (g1 : 0 ≤ g) (g2 : g ≤ 1048575) (o1 : 0 ≤ o) (o2 : decide (o ≤ 1048575) = false) :
    Calls Try.prog 150 #[.int .i64 k, .int .i64 p, .int .i64 g, .int .i64 o] w fun e w' =>
      e = .returned (.tuple #[.int .i64 0, .int .i64 6]) ∧ Below w.heap.size w w' := by
  go_enter Try.func150, Try.ntmps150
  go_wp2
  have i0 := parts0
  have i1 := parts1
  have i2 := parts2
  have i3 := parts3
  unfold partsV at i0 i1 i2 i3
  refine wp_loop_rounds 5 ?_
  rw [rounds_succ]
  go_wp2
  go_quiet (fail)
  go_wp2
  go_quiet (fail)
  go_wp2
  rw [rounds_succ]
  go_wp2
  go_quiet (fail)
  go_wp2
  go_quiet (fail)
  go_wp2
  rw [rounds_succ]
  go_wp2
  go_quiet (fail)
  go_wp2
  go_quiet (fail)
  go_wp2
  rw [rounds_succ]
  go_wp2
  go_quiet (fail)
  go_wp2
  go_ret2
  exact ⟨rfl, (by repeat (first | exact Below.refl _ _ | assumption | refine bel_drew ?_ | refine bel_drewN ?_ _ | refine bel_alloc ?_ _ | refine bel_set ?_ (by first | (dsimp only; omega) | (simp; done) | (simp; omega)) _ | refine bel_trans ?_ (by assumption)))⟩

end Go.Proofs.Ytdhcmnbajkpjiaa
/-
  The contract of handle.Put.
-/
namespace Go.Proofs.Ytdhcmnbajkpjiaa
open Go.RowKit

theorem handle_Put (k p g o : Int) (w : World) :
    Calls Try.prog 150 #[.int .i64 k, .int .i64 p, .int .i64 g, .int .i64 o] w fun e w' =>
      e = .returned (.tuple #[.int .i64 (PH.put k p g o).1, .int .i64 (PH.put k p g o).2]) ∧ Below w.heap.size w w' := by
  by_cases k1 : 1 ≤ k
  · by_cases k2 : k ≤ 3
    · by_cases p1 : 0 ≤ p
      · by_cases p2 : p ≤ 1048575
        · by_cases g1 : 0 ≤ g
          · by_cases g2 : g ≤ 1048575
            · by_cases o1 : 0 ≤ o
              · by_cases o2 : o ≤ 1048575
                · rw [PH.put_good k1 k2 ⟨p1, p2⟩ ⟨g1, g2⟩ ⟨o1, o2⟩]; exact handle_Put_good k p g o w k1 k2 p1 p2 g1 g2 o1 o2
                · rw [PH.put_over k1 k2 (by omega)]; exact handle_Put_o2 k p g o w k1 k2 p1 p2 g1 g2 o1 (by simpa using o2)
              · rw [PH.put_over k1 k2 (by omega)]; exact handle_Put_o1 k p g o w k1 k2 p1 p2 g1 g2 (by simpa using o1)
            · rw [PH.put_over k1 k2 (by omega)]; exact handle_Put_g2 k p g o w k1 k2 p1 p2 g1 (by simpa using g2)
          · rw [PH.put_over k1 k2 (by omega)]; exact handle_Put_g1 k p g o w k1 k2 p1 p2 (by simpa using g1)
        · rw [PH.put_over k1 k2 (by omega)]; exact handle_Put_p2 k p g o w k1 k2 p1 (by simpa using p2)
      · rw [PH.put_over k1 k2 (by omega)]; exact handle_Put_p1 k p g o w k1 k2 (by simpa using p1)
    · rw [PH.put_kind (by omega)]; exact handle_Put_k2 k p g o w k1 (by simpa using k2)
  · rw [PH.put_kind (by omega)]; exact handle_Put_k1 k p g o w (by simpa using k1)
end Go.Proofs.Ytdhcmnbajkpjiaa
/-
  Contracts of handle.Get, and of the references' Put and Get.
-/
namespace Go.Proofs.Ytdhcmnbajkpjiaa
open Go.RowKit
attribute [local go_sem] drewN_alloc drewN_setCell

theorem ofInt_i64 (a : Nat) (ha : a < 9223372036854775808) : (BitVec.ofInt 64 (a : Int)).toNat = a := by
  rw [BitVec.ofInt_natCast, BitVec.toNat_ofNat]; exact Nat.mod_eq_of_lt (by omega)
theorem i64_and_nat (a b : Nat) (ha : a < 9223372036854775808) (hb : b < 9223372036854775808) : bits .and .i64 (a : Int) (b : Int) = ((a &&& b : Nat) : Int) := by
  have hx : a &&& b < 2 ^ 63 := Nat.and_lt_two_pow _ (by omega)
  show IntKind.i64.wrap ((BitVec.ofInt 64 (a : Int) &&& BitVec.ofInt 64 (b : Int)).toNat : Int) = _
  rw [BitVec.toNat_and, ofInt_i64 a ha, ofInt_i64 b hb, IntKind.wrap_i64]
  omega
theorem mask20 (a : Int) (h0 : 0 ≤ a) (h1 : a ≤ 9223372036854775807) : bits .and .i64 a 1048575 = a % 1048576 := by
  obtain ⟨n, rfl⟩ := Int.eq_ofNat_of_zero_le h0
  have h := i64_and_nat n 1048575 (by omega) (by omega)
  have e : n &&& 1048575 = n % 1048576 := Nat.and_two_pow_sub_one_eq_mod n 20
  rw [e] at h
  rw [show (1048575 : Int) = ((1048575 : Nat) : Int) from rfl, h]
  omega

set_option maxHeartbeats 1000000 in
theorem handle_Get_good (h : Int) (w : World) (h0 : 0 ≤ h) (hm : h ≤ 9223372036854775807) (k1 : 1 ≤ h / 1152921504606846976) (k2 : h / 1152921504606846976 ≤ 3) :
    Calls Try.prog 155 #[.int .i64 h] w fun e w' =>
      e = .returned (.tuple #[.int .i64 (h / 1152921504606846976), .int .i64 (h / 1099511627776 % 1048576), .int .i64 (h / 1048576 % 1048576), .int .i64 (h % 1048576), .bool true]) ∧ Below w.heap.size w w' := by
  have b1 := mask20 (h / 1099511627776) (by omega) (by omega)
  have b2 := mask20 (h / 1048576) (by omega) (by omega)
  have b3 := mask20 h (by omega) (by omega)
  have f0 : decide (h / 1152921504606846976 < 1) = false := by simp; omega
  have f1 : decide (3 < h / 1152921504606846976) = false := by simp; omega
  have f2 : decide (h / 1099511627776 % 1048576 < 0) = false := by simp; omega
  have f3 : decide (1048575 < h / 1099511627776 % 1048576) = false := by simp; omega
  have f4 : decide (h / 1048576 % 1048576 < 0) = false := by simp; omega
  have f5 : decide (1048575 < h / 1048576 % 1048576) = false := by simp; omega
  have f6 : decide (h % 1048576 < 0) = false := by simp; omega
  have f7 : decide (1048575 < h % 1048576) = false := by simp; omega
  go_enter Try.func155, Try.ntmps155
  go_wp2
  have i0 := parts0
  have i1 := parts1
  have i2 := parts2
  have i3 := parts3
  unfold partsV at i0 i1 i2 i3
  refine wp_loop_rounds 5 ?_
  rw [rounds_succ]
  go_wp2
  go_quiet (fail)
  go_wp2
  rw [rounds_succ]
  go_wp2
  go_quiet (fail)
  go_wp2
  rw [rounds_succ]
  go_wp2
  go_quiet (fail)
  go_wp2
  rw [rounds_succ]
  go_wp2
  go_quiet (fail)
  go_wp2
  rw [rounds_succ]
  go_wp2
  go_quiet (fail)
  go_wp2
  refine bodyPost_ret (results_tmp5 rfl _ _ _) rfl ?_
  exact ⟨rfl, (by repeat (first | exact Below.refl _ _ | assumption | refine bel_drew ?_ | refine bel_drewN ?_ _ | refine bel_alloc ?_ _ | refine bel_set ?_ (by first | (dsimp only; omega) | (simp; done) | (simp; omega)) _ | refine bel_trans ?_ (by assumption)))⟩

set_option maxHeartbeats 1000000 in
theorem handle_Get_neg (h : Int) (w : World) (h0 : h < 0) :
    Calls Try.prog 155 #[.int .i64 h] w fun e w' =>
      e = .returned (.tuple #[.int .i64 0, .int .i64 0, .int .i64 0, .int .i64 0, .bool false]) ∧ Below w.heap.size w w' := by
  go_enter Try.func155, Try.ntmps155
  go_wp2
  refine bodyPost_ret (results_tmp5 rfl _ _ _) rfl ?_
  exact ⟨rfl, (by repeat (first | exact Below.refl _ _ | assumption | refine bel_drew ?_ | refine bel_drewN ?_ _ | refine bel_alloc ?_ _ | refine bel_set ?_ (by first | (dsimp only; omega) | (simp; done) | (simp; omega)) _ | refine bel_trans ?_ (by assumption)))⟩

set_option maxHeartbeats 1000000 in
theorem handle_Get_low (h : Int) (w : World) (h0 : 0 ≤ h) (hm : h ≤ 9223372036854775807) (k1 : decide (h / 1152921504606846976 < 1) = true) :
    Calls Try.prog 155 #[.int .i64 h] w fun e w' =>
      e = .returned (.tuple #[.int .i64 0, .int .i64 0, .int .i64 0, .int .i64 0, .bool false]) ∧ Below w.heap.size w w' := by
  go_enter Try.func155, Try.ntmps155
  go_wp2
  have i0 := parts0
  have i1 := parts1
  have i2 := parts2
  have i3 := parts3
  unfold partsV at i0 i1 i2 i3
  refine wp_loop_rounds 5 ?_
  rw [rounds_succ]
  go_wp2
  go_quiet (fail)
  go_wp2
  refine bodyPost_ret (results_tmp5 rfl _ _ _) rfl ?_
  exact ⟨rfl, (by repeat (first | exact Below.refl _ _ | assumption | refine bel_drew ?_ | refine bel_drewN ?_ _ | refine bel_alloc ?_ _ | refine bel_set ?_ (by first | (dsimp only; omega) | (simp; done) | (simp; omega)) _ | refine bel_trans ?_ (by assumption)))⟩

set_option maxHeartbeats 1000000 in
theorem handle_Get_high (h : Int) (w : World) (h0 : 0 ≤ h) (hm : h ≤ 9223372036854775807) (k1 : decide (h / 1152921504606846976 < 1) = false) (k2 : decide (3 < h / 1152921504606846976) = true) :
    Calls Try.prog 155 #[.int .i64 h] w fun e w' =>
      e = .returned (.tuple #[.int .i64 0, .int .i64 0, .int .i64 0, .int .i64 0, .bool false]) ∧ Below w.heap.size w w' := by
  go_enter Try.func155, Try.ntmps155
  go_wp2
  have i0 := parts0
  have i1 := parts1
  have i2 := parts2
  have i3 := parts3
  unfold partsV at i0 i1 i2 i3
  refine wp_loop_rounds 5 ?_
  rw [rounds_succ]
  go_wp2
  go_quiet (fail)
  go_wp2
  refine bodyPost_ret (results_tmp5 rfl _ _ _) rfl ?_
  exact ⟨rfl, (by repeat (first | exact Below.refl _ _ | assumption | refine bel_drew ?_ | refine bel_drewN ?_ _ | refine bel_alloc ?_ _ | refine bel_set ?_ (by first | (dsimp only; omega) | (simp; done) | (simp; omega)) _ | refine bel_trans ?_ (by assumption)))⟩
end Go.Proofs.Ytdhcmnbajkpjiaa
/-
  The contracts of layer 7 and of its reference, whole.
-/
-- not imported: HandleR
namespace Go.Proofs.Ytdhcmnbajkpjiaa
open Go.RowKit
attribute [local go_sem] drewN_alloc drewN_setCell

theorem handle_Get (h : Int) (w : World) (hl : -9223372036854775808 ≤ h) (hm : h ≤ 9223372036854775807) :
    Calls Try.prog 155 #[.int .i64 h] w fun e w' =>
      e = .returned (.tuple #[.int .i64 (PH.get h).1.1, .int .i64 (PH.get h).1.2.1, .int .i64 (PH.get h).1.2.2.1, .int .i64 (PH.get h).1.2.2.2, .bool (PH.get h).2]) ∧ Below w.heap.size w w' := by
  by_cases h0 : 0 ≤ h
  · by_cases k1 : 1 ≤ h / 1152921504606846976
    · by_cases k2 : h / 1152921504606846976 ≤ 3
      · rw [PH.get_yes h0 k1 k2]; exact handle_Get_good h w h0 hm k1 k2
      · rw [PH.get_no (by omega)]; exact handle_Get_high h w h0 hm (by simp; omega) (by simp; omega)
    · rw [PH.get_no (by omega)]; exact handle_Get_low h w h0 hm (by simp; omega)
  · rw [PH.get_no (by omega)]; exact handle_Get_neg h w (by omega)

end Go.Proofs.Ytdhcmnbajkpjiaa
/-
  Layer 40 (region): find.
-/
namespace Go.Proofs.Ytdhcmnbajkpjiaa
open Go.RowKit
set_option linter.unusedVariables false
set_option linter.unusedSimpArgs false
attribute [local go_sem] drewN_alloc drewN_setCell

variable {w0 w w' : World}
/-- What is found of a handle: the place, what is wrong. -/
def findV (S : FSt) (h : Int) : Int × Int :=
  if (PH.get h).2 = false ∨ (PH.get h).1.1 ≠ 2 ∨ (PH.get h).1.2.2.2 ≠ 0 then (0, 14)
  else if rightB S.O S.g (PH.get h).1.2.1 (PH.get h).1.2.2.1 = false then (0, 4) else ((PH.get h).1.2.1, 0)
theorem get_bd (h : Int) (hl : -9223372036854775808 ≤ h) (hm : h ≤ 9223372036854775807) : BdI (PH.get h).1.2.1 := by
  unfold PH.get BdI
  split
  · dsimp only; omega
  · dsimp only; omega
theorem TreesAt.keep {tb mb Fb k : Nat} {own : Nat → Prop} {S : FSt} {f : Int → Option Value} {st : Int → Option (Int × List Int × Int)} (h : TreesAt w0 w tb mb Fb own S k f st) (hb : Below w.heap.size w w') : TreesAt w0 w' tb mb Fb own S k f st :=
  ⟨h.row.keep hb, h.map.of_block (hb.block _ h.map.lt), h.forest.keep hb, h.far, fun x => by
    rcases h.vals x with h1 | ⟨c, v, l, cur, e1, e2, e3, e4⟩
    · exact .inl h1
    · exact .inr ⟨c, v, l, cur, e1, e2, e3.keep hb, e4⟩⟩
set_option maxRecDepth 100000 in
set_option maxHeartbeats 4000000 in
theorem region_find {tb mb Fb k : Nat} {own : Nat → Prop} {S : FSt} {f : Int → Option Value} {st : Int → Option (Int × List Int × Int)} (r : Int) (hl : -9223372036854775808 ≤ r) (hm : r ≤ 9223372036854775807) (h : TreesAt w0 w tb mb Fb own S k f st) :
    Calls Try.prog 145 #[.pointer (some ⟨tb, 0, none⟩), .int .i64 r] w fun e w' => e = .returned (.tuple #[.int .i64 (findV S r).1, .int .i64 (findV S r).2]) ∧ Below w.heap.size w w' := by
  have K1 := Lib.hid (region_is h)
  have K2 := Lib.hid (handle_Get r w hl hm)
  have hbd := get_bd r hl hm
  obtain ⟨Y, hY⟩ : ∃ Y, findV S r = Y := ⟨_, rfl⟩
  rw [hY]
  unfold findV at hY
  obtain ⟨⟨⟨kd, p, g, o⟩, ok⟩, hG⟩ : ∃ G, PH.get r = G := ⟨_, rfl⟩
  rw [hG] at K2 hbd hY
  dsimp only at K2 hbd hY
  have K3 : Hid (∀ W, Below w.heap.size w W → Calls Try.prog 52 #[.pointer (some ⟨Fb, 0, none⟩), .int .i64 p, .int .i64 g] W fun e w' => e = .returned (.bool (rightB S.O S.g p g)) ∧ Below W.heap.size W w') := Lib.hid (fun W hW => overf_Right p g hbd (h.forest.keep hW))
  have KC : Hid (∀ W, Below w.heap.size w W → W.cell? ⟨tb, 0, none⟩ = some (.pointer (some ⟨Fb, 0, none⟩))) := Lib.hid (fun W hW => ((h.row.keep hW).cell 0).trans rfl)
  generalize rightB S.O S.g p g = q at *
  have HY := Lib.hid hY
  clear h hG hbd hY
  go_enter Try.func145, Try.ntmps145
  go_wp2_with fail
  refine K1.out.mono ?_
  rintro e w1 ⟨rfl, rfl⟩
  go_wp2_with fail
  refine K2.out.mono ?_
  rintro e w2 ⟨rfl, b2⟩
  have c0 := KC.out w2 b2
  cases ok with
  | false =>
    have hY := HY.out; rw [if_pos (.inl rfl)] at hY; subst hY; clear HY
    go_wp2_with fail
    exact bodyPost_ret (v := .tuple #[.int .i64 0, .int .i64 14]) (by simp [results, Try.results145, go_sem]) rfl ⟨rfl, b2⟩
  | true =>
    by_cases hk : kd = 2
    · subst hk
      by_cases ho : o = 0
      · subst ho
        have hY := HY.out; rw [if_neg (by simp)] at hY; replace HY := Lib.hid hY; clear hY
        go_wp2_with fail
        refine (K3.out w2 b2).mono ?_
        rintro e w3 ⟨rfl, b3⟩
        have t3 : Below w.heap.size w w3 := b2.trans (b3.mono b2.size)
        clear b3
        cases q with
        | false =>
          have hY := HY.out; rw [if_pos rfl] at hY; subst hY; clear HY
          go_wp2_with fail
          exact bodyPost_ret (v := .tuple #[.int .i64 0, .int .i64 4]) (by simp [results, Try.results145, go_sem]) rfl ⟨rfl, t3⟩
        | true =>
          have hY := HY.out; rw [if_neg (by simp)] at hY; subst hY; clear HY
          go_wp2_with fail
          exact bodyPost_ret (v := .tuple #[.int .i64 p, .int .i64 0]) (by simp [results, Try.results145, go_sem]) rfl ⟨rfl, t3⟩
      · have hY := HY.out; rw [if_pos (.inr (.inr ho))] at hY; subst hY; clear HY
        have g1 : (o == 0) = false := by simpa using ho
        go_wp2_with fail
        exact bodyPost_ret (v := .tuple #[.int .i64 0, .int .i64 14]) (by simp [results, Try.results145, go_sem]) rfl ⟨rfl, b2⟩
    · have hY := HY.out; rw [if_pos (.inr (.inl hk))] at hY; subst hY; clear HY
      have g1 : (kd == 2) = false := by simpa using hk
      go_wp2_with fail
      exact bodyPost_ret (v := .tuple #[.int .i64 0, .int .i64 14]) (by simp [results, Try.results145, go_sem]) rfl ⟨rfl, b2⟩
end Go.Proofs.Ytdhcmnbajkpjiaa
/-
  Layer 40 (region): made.
-/
namespace Go.Proofs.Ytdhcmnbajkpjiaa
open Go.RowKit
set_option linter.unusedVariables false
set_option linter.unusedSimpArgs false
attribute [local go_sem] drewN_alloc drewN_setCell

variable {w0 w w' : World}
/-- What made hands back. -/
def madeV (p g : Int) (ok : Bool) : Int × Int := if ok = false then (0, 10) else PH.put 2 p g 0
set_option maxRecDepth 100000 in
set_option maxHeartbeats 4000000 in
theorem region_made_no {tb mb Fb k : Nat} {own : Nat → Prop} {S : FSt} {f : Int → Option Value} {st : Int → Option (Int × List Int × Int)} (c p g : Int) (h : TreesAt w0 w tb mb Fb own S k f st) :
    Calls Try.prog 144 #[.pointer (some ⟨tb, 0, none⟩), .int .i64 c, .int .i64 p, .int .i64 g, .bool false] w fun e w' => e = .returned (.tuple #[.int .i64 0, .int .i64 10]) ∧ w = w' := by
  clear h
  go_enter Try.func144, Try.ntmps144
  go_wp2_with fail
  exact bodyPost_ret (v := .tuple #[.int .i64 0, .int .i64 10]) (by simp [results, Try.results144, go_sem]) rfl ⟨rfl, rfl⟩
set_option maxRecDepth 100000 in
set_option maxHeartbeats 4000000 in
theorem region_made {tb mb Fb k : Nat} {own : Nat → Prop} {S : FSt} {f : Int → Option Value} {st : Int → Option (Int × List Int × Int)} (c p g : Int) (hp : BdI p) (hk : k < 100000) (h : TreesAt w0 w tb mb Fb own S k f st) :
    Calls Try.prog 144 #[.pointer (some ⟨tb, 0, none⟩), .int .i64 c, .int .i64 p, .int .i64 g, .bool true] w fun e w' => e = .returned (.tuple #[.int .i64 (PH.put 2 p g 0).1, .int .i64 (PH.put 2 p g 0).2]) ∧
      TreesAt w0 w' tb mb Fb own S (k + 1) (fun z => if z = p then some (regV c (.slice none 0 0) 0) else f z) (fun z => if z = p then some (c, [], 0) else st z) ∧ Chg (fun j => j = mb) w w' := by
  have c1 : w.cell? ⟨tb, 1, none⟩ = some (.map (some mb)) := (h.row.cell 1).trans rfl
  obtain ⟨w1, hrun, hm, hg⟩ := h.map.upd p (regV c (.slice none 0 0) 0) hp (by unfold maxLen; omega)
  have KP := Lib.hid (fun W => handle_Put 2 p g 0 W)
  have H := Lib.hid h
  have HM := Lib.hid hm
  have HG := Lib.hid hg
  clear h hm hg
  unfold regV at hrun
  go_enter Try.func144, Try.ntmps144
  go_wp2_with fail
  refine (KP.out _).mono ?_
  rintro e w2 ⟨rfl, b2⟩
  have hc : Chg (fun j => j = mb) w w2 := (Chg.of_grown HG.out (fun j e => (Option.some.inj e).symm)).trans (Chg.of_below b2)
  go_wp2_with fail
  refine bodyPost_ret (v := .tuple #[.int .i64 (PH.put 2 p g 0).1, .int .i64 (PH.put 2 p g 0).2]) (by simp [results, Try.results144, go_sem]) rfl ⟨rfl, ?_, hc⟩
  have h := H.out
  refine ⟨h.row.of_block (hc.block tb h.row.lt (fun e => h.far.1 e)), HM.out.of_block (b2.block mb HM.out.lt), h.forest.of_own (fun j hj => hc.block j (h.forest.fresh j hj).2 (fun e => h.far.2.2.1 (by rw [← e]; exact hj))) hc.size (h.forest.below.trans (hc.below h.forest.below.size (fun j e => by rw [e]; exact h.far.2.2.2.2))), h.far, fun x => ?_⟩
  by_cases hx : x = p
  · subst hx
    exact .inr ⟨c, .slice none 0 0, [], 0, by simp, by simp, OwnI.nil _ _, fun j e => by cases e⟩
  · rcases h.vals x with ⟨h1, h2⟩ | ⟨c', v, l, cur, e1, e2, e3, e4⟩
    · exact .inl ⟨by simp [hx, h1], by simp [hx, h2]⟩
    · exact .inr ⟨c', v, l, cur, by simp [hx, e1], by simp [hx, e2], e3.of_chg hc (fun j e e5 => (e4 j e).2.1 e5), e4⟩
end Go.Proofs.Ytdhcmnbajkpjiaa
/-
  Layer 40 (region): set.
-/
namespace Go.Proofs.Ytdhcmnbajkpjiaa
open Go.RowKit
set_option linter.unusedVariables false
set_option linter.unusedSimpArgs false
attribute [local go_sem] drewN_alloc drewN_setCell

variable {w0 w w' : World}
theorem RowR.set_ {g : Nat} {t : TypeId} {cs : List Value} (h : RowR w g t cs) (i : Nat) (u : Value) : RowR (w.setCell ⟨g, i, none⟩ u) g t (cs.set i u) := by
  unfold RowR at h ⊢
  simp [World.setCell, Array.getElem?_modify, h]
set_option maxRecDepth 100000 in
set_option maxHeartbeats 4000000 in
theorem region_set {tb mb Fb k : Nat} {f : Int → Option Value} (p c cur cur' : Int) {A A' : Option Addr} {n n' c1 c2 : Nat} (hp : BdI p) (hk : k < 100000)
    (HR0 : RowR w tb 120 [.pointer (some ⟨Fb, 0, none⟩), .map (some mb)]) (HM0 : RMapAt w mb k f) (hne : tb ≠ mb)
    (hf : f p = some (regV c (.slice A n c1) cur)) :
    Calls Try.prog 147 #[.pointer (some ⟨tb, 0, none⟩), .int .i64 p, .agg #[.slice A' n' c2, .int .i64 cur']] w fun e w' => e = .returned (.tuple #[]) ∧
      RMapAt w' mb (k + 1) (fun z => if z = p then some (regV c (.slice A' n' c2) cur') else f z) ∧ Chg (fun j => j = mb) w w' := by
  have HM := Lib.hid HM0
  have HR := Lib.hid HR0
  have HF := Lib.hid hf
  have HNE := Lib.hid hne
  clear hf HM0 HR0 hne
  go_enter Try.func147, Try.ntmps147
  go_upto_region 1 with (fail)
  refine region_name ?_
  rintro V hV
  have bV : Below w.heap.size w V := by rw [hV]; exact bel_alloc (Below.refl _ _) _
  have d1 : V.cell? ⟨tb, 1, none⟩ = some (.map (some mb)) := ((HR.out.keep bV).cell 1).trans rfl
  have hl := (HM.out.of_block (bV.block mb HM.out.lt)).look0 p hp
  rw [HF.out] at hl
  simp only [Option.getD_some, regV] at hl
  obtain ⟨lb, hlb⟩ : ∃ lb, w.heap.size = lb := ⟨_, rfl⟩
  have rL : RowR V lb 153 [.slice A' n' c2, .int .i64 cur'] := by rw [hV, ← hlb]; exact RowR.new _ _ _
  rw [hlb] at bV ⊢
  have HBV := Lib.hid bV
  have HLB := Lib.hid hlb
  have RL := Lib.hid rL
  clear hV bV rL hlb
  go_upto_region 2 with (fail)
  refine region_name ?_
  rintro W hW
  have bW : Below V.heap.size V W := by rw [hW]; exact (by repeat (first | exact Below.refl _ _ | assumption | refine bel_drew ?_ | refine bel_drewN ?_ _ | refine bel_alloc ?_ _ | refine bel_set ?_ (by first | (dsimp only; omega) | (simp; done) | (simp; omega)) _ | refine bel_trans ?_ (by assumption)))
  obtain ⟨xb, hxb⟩ : ∃ xb, V.heap.size = xb := ⟨_, rfl⟩
  have rX : RowR W xb 157 [.int .i64 c, .slice A n c1, .int .i64 cur] := by rw [hW, ← hxb]; exact RowR.new _ _ _
  rw [hxb] at bW ⊢
  have l0 : W.cell? ⟨lb, 0, none⟩ = some (.slice A' n' c2) := ((RL.out.of_block (bW.block lb (hxb ▸ RL.out.lt))).cell 0).trans rfl
  have l1 : W.cell? ⟨lb, 1, none⟩ = some (.int .i64 cur') := ((RL.out.of_block (bW.block lb (hxb ▸ RL.out.lt))).cell 1).trans rfl
  have f1 := rX.frozen 1
  have f2 := rX.frozen 2
  have x1 := (rX.cell 1).trans rfl
  have x2 := (rX.cell 2).trans rfl
  have HBW := Lib.hid bW
  have HXB := Lib.hid hxb
  have RX := Lib.hid rX
  clear hW bW rX hxb d1 hl
  go_upto_region 3 with (fail)
  refine region_name ?_
  rintro W3 hW3
  have b3 : Below lb w W3 := by
    have h1 := HLB.out
    have h2 := HXB.out
    have h3 := HBV.out.size
    have h4 : Below V.heap.size V W := h2.symm ▸ HBW.out
    rw [hW3]
    exact ((HBV.out.trans (h4.mono (by omega))).setCell (by show lb ≤ xb; omega) _).setCell (by show lb ≤ xb; omega) _
  have rX3 : RowR W3 xb 157 [.int .i64 c, .slice A' n' c2, .int .i64 cur'] := by
    rw [hW3]; exact (RX.out.set_ 1 _).set_ 2 _
  have hlt : tb < w.heap.size := HR.out.lt
  have hm3 : RMapAt W3.drew mb k f := (HM.out.of_block (b3.block mb (HLB.out ▸ HM.out.lt))).of_block rfl
  obtain ⟨w4, hrun, hm4, hg4⟩ := hm3.upd p (regV c (.slice A' n' c2) cur') hp (by unfold maxLen; omega)
  have r3 : RowR W3 tb 120 [.pointer (some ⟨Fb, 0, none⟩), .map (some mb)] := HR.out.of_block (b3.block tb (HLB.out ▸ hlt))
  have hnx : xb ≠ mb := by
    have h1 := HLB.out
    have h2 := HXB.out
    have h3 := HBV.out.size
    have h4 := HM.out.lt
    omega
  have s1 : W3.drew.cell? ⟨tb, 1, none⟩ = some (.map (some mb)) ∧ W3.drew.cell? ⟨xb, 0, none⟩ = some (.int .i64 c) ∧ W3.drew.cell? ⟨xb, 1, none⟩ = some (.slice A' n' c2) ∧ W3.drew.cell? ⟨xb, 2, none⟩ = some (.int .i64 cur') := ⟨(r3.cell 1).trans rfl, (rX3.cell 0).trans rfl, (rX3.cell 1).trans rfl, (rX3.cell 2).trans rfl⟩
  have r4 : RowR w4 tb 120 [.pointer (some ⟨Fb, 0, none⟩), .map (some mb)] := (r3.of_block (w' := W3.drew) rfl).of_block (hg4.block tb r3.lt (fun e => HNE.out (Option.some.inj e)))
  have x4 : RowR w4 xb 157 [.int .i64 c, .slice A' n' c2, .int .i64 cur'] := (rX3.of_block (w' := W3.drew) rfl).of_block (hg4.block xb rX3.lt (fun e => hnx (Option.some.inj e)))
  have s2 : w4.cell? ⟨tb, 1, none⟩ = some (.map (some mb)) ∧ w4.cell? ⟨xb, 0, none⟩ = some (.int .i64 c) ∧ w4.cell? ⟨xb, 1, none⟩ = some (.slice A' n' c2) ∧ w4.cell? ⟨xb, 2, none⟩ = some (.int .i64 cur') := ⟨(r4.cell 1).trans rfl, (x4.cell 0).trans rfl, (x4.cell 1).trans rfl, (x4.cell 2).trans rfl⟩
  have cd : Chg (fun j => j = mb) W3 W3.drew := ⟨rfl, rfl, rfl, Nat.le_refl _, fun _ _ _ => rfl⟩
  have hfin : Hid (RMapAt w4 mb (k + 1) (fun z => if z = p then some (regV c (.slice A' n' c2) cur') else f z) ∧ Chg (fun j => j = mb) w w4) :=
    Lib.hid ⟨hm4, (Chg.of_below (HLB.out.symm ▸ b3)).trans (cd.trans (Chg.of_grown hg4 (fun j e => (Option.some.inj e).symm)))⟩
  unfold regV at hrun
  clear hW3 b3 rX3 hm3 hm4 hg4 r3 r4 x4 hnx l0 l1 f1 f2 x1 x2
  refine wp_region_held_drew (S := (fun W : World => W.cell? ⟨tb, 1, none⟩ = some (.map (some mb)) ∧ W.cell? ⟨xb, 0, none⟩ = some (.int .i64 c) ∧ W.cell? ⟨xb, 1, none⟩ = some (.slice A' n' c2) ∧ W.cell? ⟨xb, 2, none⟩ = some (.int .i64 cur'))) (by kernel_rfl) ?_ (fun hHeld => ?_)
  focus ((try dsimp only); first | exact s1 | exact s2)
  refine tk_yes 0 (v := ?_) rfl (by kernel_rfl) (by kernel_rfl) (by kernel_rfl) (fun _ _ _ h => h) (by kernel_rfl) (by assumption) ?_ ?_; rotate_left; (focus (intro w hSw; (try dsimp only at hSw); go_simp; (first | done | (with_reducible rfl)))); (try simp only [Act.put, List.setIfInBounds_toArray, List.set_cons_zero, List.set_cons_succ])
  refine tk_yes 1 (v := ?_) rfl (by kernel_rfl) (by kernel_rfl) (by kernel_rfl) (fun _ _ _ h => h) (by kernel_rfl) (by assumption) ?_ ?_; rotate_left; (focus (intro w hSw; (try dsimp only at hSw); go_simp; (first | done | (with_reducible rfl)))); (try simp only [Act.put, List.setIfInBounds_toArray, List.set_cons_zero, List.set_cons_succ])
  refine tk_yes 2 (v := ?_) rfl (by kernel_rfl) (by kernel_rfl) (by kernel_rfl) (fun _ _ _ h => h) (by kernel_rfl) (by assumption) ?_ ?_; rotate_left; (focus (intro w hSw; (try dsimp only at hSw); go_simp; (first | done | (with_reducible rfl)))); (try simp only [Act.put, List.setIfInBounds_toArray, List.set_cons_zero, List.set_cons_succ])
  refine tk_yes 3 (v := ?_) rfl (by kernel_rfl) (by kernel_rfl) (by kernel_rfl) (fun _ _ _ h => h) (by kernel_rfl) (by assumption) ?_ ?_; rotate_left; (focus (intro w hSw; (try dsimp only at hSw); go_simp; (first | done | (with_reducible rfl)))); (try simp only [Act.put, List.setIfInBounds_toArray, List.set_cons_zero, List.set_cons_succ])
  refine tk_yes 4 (v := ?_) rfl (by kernel_rfl) (by kernel_rfl) (by kernel_rfl) (fun _ _ _ h => h) (by kernel_rfl) (by assumption) ?_ ?_; rotate_left; (focus (intro w hSw; (try dsimp only at hSw); go_simp; (first | done | (with_reducible rfl)))); (try simp only [Act.put, List.setIfInBounds_toArray, List.set_cons_zero, List.set_cons_succ])
  refine tk_yes 5 (v := ?_) rfl (by kernel_rfl) (by kernel_rfl) (by kernel_rfl) (fun _ _ _ h => h) (by kernel_rfl) (by assumption) ?_ ?_; rotate_left; (focus (intro w hSw; (try dsimp only at hSw); go_simp; (first | done | (with_reducible rfl)))); (try simp only [Act.put, List.setIfInBounds_toArray, List.set_cons_zero, List.set_cons_succ])
  refine tk_call 6 rfl (by kernel_rfl) (by kernel_rfl) (fun KW hKW => ?_); go_simp; refine hKW.out _ _ ?_ (fun hHeld => ?_); (focus ((try dsimp only); first | exact s1 | exact s2)); clear hKW KW; (try simp only [Act.put, List.setIfInBounds_toArray, List.set_cons_zero, List.set_cons_succ])
  refine wpAnyH_done (by kernel_rfl) ?_ _
  go_wp2_with fail
  exact bodyPost_end (v := .tuple #[]) (by simp [results, Try.results147, go_sem]) rfl ⟨rfl, hfin.out⟩
end Go.Proofs.Ytdhcmnbajkpjiaa
/-
  Layer 40 (region): one hypothesis for regions that a call made; Root, Child.
-/
namespace Go.Proofs.Ytdhcmnbajkpjiaa
open Go.RowKit
set_option linter.unusedVariables false
set_option linter.unusedSimpArgs false
attribute [local go_sem] drewN_alloc drewN_setCell

variable {w0 w w' : World} {tb : Nat} {O : Nat → Prop} {N : List Nat} {S : FSt} {k : Nat} {st : Int → Option (Int × List Int × Int)}
/-- Regions made since w0, their nodes N in the order in which they came; all blocks of theirs are in O. -/
structure TreesOver (w0 w : World) (tb : Nat) (O : Nat → Prop) (N : List Nat) (S : FSt) (k : Nat) (st : Int → Option (Int × List Int × Int)) : Prop where
  ex : ∃ mb Fb own f, TreesAt w0 w tb mb Fb own S k f st ∧ O tb ∧ O mb ∧ (∀ j, own j → O j) ∧ ∀ x c v cur, f x = some (regV c v cur) → ∀ j, v.ownBlock = some j → O j
  ord : Ord N S.up
  rel : NRel 4096 S N
  fresh : ∀ j, O j → w0.heap.size ≤ j ∧ j < w.heap.size
/-- What a call does that changes regions. -/
def TreesStep (w0 w : World) (tb : Nat) (O : Nat → Prop) (N : List Nat) (S : FSt) (k : Nat) (st : Int → Option (Int × List Int × Int)) (w' : World) : Prop :=
  ∃ O', TreesOver w0 w' tb O' N S k st ∧ Chg O w w' ∧ ∀ j, O' j → O j ∨ w.heap.size ≤ j
theorem regV_inj {c c' cur cur' : Int} {v v' : Value} (h : regV c v cur = regV c' v' cur') : c = c' ∧ v = v' ∧ cur = cur' := by
  unfold regV at h
  injection h with h
  simpa using h
theorem TreesAt.val {mb Fb : Nat} {own : Nat → Prop} {f : Int → Option Value} (h : TreesAt w0 w tb mb Fb own S k f st) {x c cur : Int} {v : Value} (e : f x = some (regV c v cur)) :
    ∃ l, st x = some (c, l, cur) ∧ OwnI w0.heap.size w v l ∧ ∀ j, v.ownBlock = some j → j ≠ tb ∧ j ≠ mb ∧ ¬ own j := by
  rcases h.vals x with ⟨h1, _⟩ | ⟨c', v', l, cur', e1, e2, e3, e4⟩
  · rw [h1] at e; cases e
  · rw [e1] at e
    obtain ⟨rfl, rfl, rfl⟩ := regV_inj (Option.some.inj e)
    exact ⟨l, e2, e3, e4⟩
theorem TreesAt.tell {mb Fb : Nat} {own : Nat → Prop} {f : Int → Option Value} (h : TreesAt w0 w tb mb Fb own S k f st) {x c cur : Int} {l : List Int} (e : st x = some (c, l, cur)) :
    ∃ v, f x = some (regV c v cur) ∧ OwnI w0.heap.size w v l ∧ ∀ j, v.ownBlock = some j → j ≠ tb ∧ j ≠ mb ∧ ¬ own j := by
  rcases h.vals x with ⟨_, h1⟩ | ⟨c', v', l', cur', e1, e2, e3, e4⟩
  · rw [h1] at e; cases e
  · rw [e2] at e
    injection e with e
    injection e with ea eb
    injection eb with eb ec
    subst ea; subst eb; subst ec
    exact ⟨v', e1, e3, e4⟩
theorem TreesOver.step {mb Fb k' : Nat} {own : Nat → Prop} {f : Int → Option Value} {N' : List Nat} {S' : FSt} {st' : Int → Option (Int × List Int × Int)} (h : TreesOver w0 w tb O N S k st) (hc : Chg O w w') (ha : TreesAt w0 w' tb mb Fb own S' k' f st')
    (htb : O tb) (hmb : O mb ∨ w.heap.size ≤ mb) (hown : ∀ j, own j → O j ∨ w.heap.size ≤ j) (hv : ∀ x c v cur, f x = some (regV c v cur) → ∀ j, v.ownBlock = some j → O j ∨ w.heap.size ≤ j) (hO : Ord N' S'.up) (hr : NRel 4096 S' N') :
    TreesStep w0 w tb O N' S' k' st' w' := by
  obtain ⟨mb0, Fb0, own0, f0, h0, _⟩ := h.ex
  have hs := h0.forest.below.size
  refine ⟨fun j => (O j ∨ w.heap.size ≤ j) ∧ j < w'.heap.size, ⟨⟨mb, Fb, own, f, ha, ⟨.inl htb, ha.row.lt⟩, ⟨hmb, ha.map.lt⟩, fun j hj => ⟨hown j hj, (ha.forest.fresh j hj).2⟩, fun x c v cur e j hj => ⟨hv x c v cur e j hj, ?_⟩⟩, hO, hr, fun j hj => ⟨?_, hj.2⟩⟩, hc, fun j hj => hj.1⟩
  · obtain ⟨l, _, e3, _⟩ := ha.val e
    exact (e3.ltB j hj).2
  · rcases hj.1 with h1 | h1
    · exact (h.fresh j h1).1
    · omega
theorem TreesOver.of_chg {C : Nat → Prop} (h : TreesOver w0 w tb O N S k st) (hc : Chg C w w') (hd : ∀ j, O j → ¬ C j) (hB : ∀ j, C j → w0.heap.size ≤ j) : TreesOver w0 w' tb O N S k st := by
  obtain ⟨mb, Fb, own, f, h0, h1, h2, h3, h4⟩ := h.ex
  refine ⟨⟨mb, Fb, own, f, ⟨h0.row.of_block (hc.block tb h0.row.lt (hd tb h1)), h0.map.of_block (hc.block mb h0.map.lt (hd mb h2)), h0.forest.of_own (fun j hj => hc.block j (h0.forest.fresh j hj).2 (hd j (h3 j hj))) hc.size (h0.forest.below.trans (hc.below h0.forest.below.size hB)), h0.far, fun x => ?_⟩, h1, h2, h3, h4⟩, h.ord, h.rel, fun j hj => ⟨(h.fresh j hj).1, Nat.lt_of_lt_of_le (h.fresh j hj).2 hc.size⟩⟩
  rcases h0.vals x with e | ⟨c, v, l, cur, e1, e2, e3, e4⟩
  · exact .inl e
  · exact .inr ⟨c, v, l, cur, e1, e2, e3.of_chg hc (fun j e => hd j (h4 x c v cur e1 j e)), e4⟩
theorem TreesOver.keep (h : TreesOver w0 w tb O N S k st) (hb : Below w.heap.size w w') : TreesOver w0 w' tb O N S k st :=
  h.of_chg (C := fun _ => False) (Chg.of_below hb) (fun _ _ hf => hf) (fun _ hf => hf.elim)
theorem TreesOver.same (h : TreesOver w0 w tb O N S k st) (hb : Below w.heap.size w w') : TreesStep w0 w tb O N S k st w' :=
  ⟨O, h.keep hb, Chg.of_below hb, fun _ hj => .inl hj⟩
/-- A call that changes the forest leaves the map. -/
theorem TreesAt.forest_step {mb Fb : Nat} {own : Nat → Prop} {f : Int → Option Value} {S' : FSt} (h : TreesAt w0 w tb mb Fb own S k f st) (hs : OverStep w0 w own Fb 4096 S' w') :
    ∃ own', TreesAt w0 w' tb mb Fb own' S' k f st ∧ Chg own w w' ∧ ∀ j, own' j → own j ∨ w.heap.size ≤ j := by
  obtain ⟨own', h1, hc, h2⟩ := hs
  have hlt := h.row.lt
  have hml := h.map.lt
  refine ⟨own', ⟨h.row.of_block (hc.block tb hlt h.far.2.1), h.map.of_block (hc.block mb hml h.far.2.2.1), h1, ⟨h.far.1, fun e => ?_, fun e => ?_, h.far.2.2.2⟩, fun x => ?_⟩, hc, h2⟩
  · rcases h2 tb e with h3 | h3
    · exact h.far.2.1 h3
    · omega
  · rcases h2 mb e with h3 | h3
    · exact h.far.2.2.1 h3
    · omega
  · rcases h.vals x with e | ⟨c, v, l, cur, e1, e2, e3, e4⟩
    · exact .inl e
    · refine .inr ⟨c, v, l, cur, e1, e2, e3.of_chg hc (fun j e => (e4 j e).2.2), fun j e => ⟨(e4 j e).1, (e4 j e).2.1, fun ho => ?_⟩⟩
      rcases h2 j ho with h3 | h3
      · exact (e4 j e).2.2 h3
      · have := (e3.ltB j e).2; omega
theorem TreesOver.new {e : Ending} (h : NewTrees w e w') : ∃ tb O, e = .returned (.pointer (some ⟨tb, 0, none⟩)) ∧ TreesOver w w' tb O [] (FSt.new 4096) 0 (fun _ => none) ∧ Below w.heap.size w w' := by
  obtain ⟨tb, mb, Fb, own, rfl, h1⟩ := h
  refine ⟨tb, fun j => w.heap.size ≤ j ∧ j < w'.heap.size, rfl, ⟨⟨mb, Fb, own, _, h1, ⟨h1.far.2.2.2.1, h1.row.lt⟩, ⟨h1.far.2.2.2.2, h1.map.lt⟩, fun j hj => h1.forest.fresh j hj, fun x c v cur e => by cases e⟩, Ord.none _, NRel.none _, fun j hj => hj⟩, h1.forest.below⟩
/-- A new region p: its client is c. -/
def stNew (st : Int → Option (Int × List Int × Int)) (p c : Int) : Int → Option (Int × List Int × Int) := fun z => if z = p then some (c, [], 0) else st z
def MadeReg (w0 : World) (tb : Nat) (O : Nat → Prop) (N : List Nat) (S : FSt) (k : Nat) (st : Int → Option (Int × List Int × Int)) (i : Nat) (q : Int) (p : Nat) (c : Int) (w : World) (e : Ending) (w' : World) : Prop :=
  e = .returned (.tuple #[.int .i64 (PH.put 2 p (S.g.getD p 0) 0).1, .int .i64 (PH.put 2 p (S.g.getD p 0) 0).2]) ∧ TreesStep w0 w tb O (N ++ [p]) (S.add 4096 i q) (k + 1) (stNew st p c) w'
set_option maxRecDepth 100000 in
set_option maxHeartbeats 4000000 in
theorem region_Root (c : Int) {p : Nat} {cl' : List Nat} {fr' : Nat} (hc : 0 ≤ c ∧ c < 64) (hk : k < 100000) (h : TreesOver w0 w tb O N S k st) (hp : pickP S.cl S.fr 4096 = some (p, cl', fr')) :
    Calls Try.prog 91 #[.pointer (some ⟨tb, 0, none⟩), .int .i64 c] w (MadeReg w0 tb O N S k st 4096 (-1) p c w) := by
  obtain ⟨mb, Fb, own, f, h0, h1, h2, h3, h4⟩ := h.ex
  have K1 := Lib.hid (region_is h0)
  have K2 := Lib.hid (overf_Root h0.forest)
  have e1 : S.told 4096 = .tuple #[.int .i64 (p : Int), .int .i64 (S.g.getD p 0), .bool true] := by unfold FSt.told; rw [hp]
  rw [e1] at K2
  have hpl : p < 4096 := (h0.forest.fi.s.pick hp).2.2.1
  have bp : BdI (p : Int) := ⟨by omega, by omega⟩
  have K3 : Hid (∀ g W own' S', TreesAt w0 W tb mb Fb own' S' k f st → Calls Try.prog 144 #[.pointer (some ⟨tb, 0, none⟩), .int .i64 c, .int .i64 (p : Int), .int .i64 g, .bool true] W _) := Lib.hid (fun g W own' S' hh => region_made c (p : Int) g bp hk hh)
  have d0 : w.cell? ⟨tb, 0, none⟩ = some (.pointer (some ⟨Fb, 0, none⟩)) := (h0.row.cell 0).trans rfl
  have g1 : decide (c < 0) = false := by simp; omega
  have g2 : decide (64 ≤ c) = false := by simp; omega
  have fin : Hid (∀ w1 own1 w2, TreesAt w0 w1 tb mb Fb own1 (S.add 4096 4096 (-1)) k f st → Chg own w w1 → (∀ j, own1 j → own j ∨ w.heap.size ≤ j) → TreesAt w0 w2 tb mb Fb own1 (S.add 4096 4096 (-1)) (k + 1) (fun z => if z = (p : Int) then some (regV c (.slice none 0 0) 0) else f z) (fun z => if z = (p : Int) then some (c, [], 0) else st z) → Chg (fun j => j = mb) w1 w2 →
      TreesStep w0 w tb O (N ++ [p]) (S.add 4096 4096 (-1)) (k + 1) (stNew st p c) w2) := Lib.hid (fun w1 own1 w2 a1 a2 a3 a4 a5 => by
    refine h.step (mb := mb) (Fb := Fb) (own := own1) ((a2.mono (fun j _ hj => h3 j hj)).trans (a5.mono (fun j _ hj => by rw [hj]; exact h2))) a4 h1 (.inl h2) (fun j hj => (a3 j hj).imp (h3 j) id) (fun x c' v cur e j hj => ?_) (h.ord.step h0.forest.fi h.rel h0.forest.ulen hp (.inl rfl)) (h.rel.add h0.forest.fi h0.forest.ulen hp (.inl ⟨rfl, rfl⟩))
    split at e
    · obtain ⟨-, rfl, -⟩ := regV_inj (Option.some.inj e); cases hj
    · exact .inl (h4 x c' v cur e j hj))
  have H0 := Lib.hid h0
  unfold MadeReg
  generalize S.g.getD p 0 = g at *
  have HBP := Lib.hid bp
  clear h h0 h1 h2 h3 h4 hp e1 hpl bp
  go_enter Try.func91, Try.ntmps91
  go_wp2_with fail
  refine K1.out.mono ?_
  rintro e w1 ⟨rfl, rfl⟩
  go_wp2_with fail
  refine K2.out.mono ?_
  rintro e w1 ⟨rfl, s1⟩
  obtain ⟨own1, t1, c1, c2⟩ := H0.out.forest_step s1
  have K4 := Lib.hid (K3.out g w1 own1 _ t1)
  have T1 := Lib.hid t1
  have C1 := Lib.hid c1
  have C2 := Lib.hid c2
  clear s1 t1 c1 c2
  go_wp2_with fail
  refine K4.out.mono ?_
  rintro e w2 ⟨rfl, t2, c2⟩
  have HF := Lib.hid (fin.out w1 own1 w2 T1.out C1.out C2.out t2 c2)
  clear t2 c2 fin
  go_wp2_with fail
  exact bodyPost_ret (v := .tuple #[.int .i64 (PH.put 2 p g 0).1, .int .i64 (PH.put 2 p g 0).2]) (by simp [results, Try.results91, go_sem]) rfl ⟨rfl, HF.out⟩
end Go.Proofs.Ytdhcmnbajkpjiaa
/-
  Layer 40 (region): Child.
-/
namespace Go.Proofs.Ytdhcmnbajkpjiaa
open Go.RowKit
set_option linter.unusedVariables false
set_option linter.unusedSimpArgs false
attribute [local go_sem] drewN_alloc drewN_setCell

variable {w0 w w' : World} {tb : Nat} {O : Nat → Prop} {N : List Nat} {S : FSt} {k : Nat} {st : Int → Option (Int × List Int × Int)}
theorem rightB_in {O : List Nat} {g : List Int} {x y : Int} (h : rightB O g x y = true) : x ∈ ints O := by
  unfold rightB at h
  simp only [Bool.and_eq_true, decide_eq_true_eq] at h
  exact h.1
theorem find_in {S : FSt} {r q : Int} (h : findV S r = (q, 0)) : q ∈ ints S.O := by
  unfold findV at h
  split at h
  · injection h with _ h; omega
  · split at h
    · injection h with _ h; omega
    · rename_i h2
      injection h with h
      rw [← h]
      exact rightB_in (by simpa using h2)
theorem TreesAt.put {mb Fb k' : Nat} {own : Nat → Prop} {f f' : Int → Option Value} {x c cur : Int} {v : Value} {l : List Int} (h : TreesAt w0 w tb mb Fb own S k f st) (hm : RMapAt w' mb k' f') (hc : Chg (fun j => j = mb) w w')
    (hf : f' = fun z => if z = x then some (regV c v cur) else f z) (ho : OwnI w0.heap.size w v l) (hv : ∀ j, v.ownBlock = some j → j ≠ tb ∧ j ≠ mb ∧ ¬ own j) :
    TreesAt w0 w' tb mb Fb own S k' f' (fun z => if z = x then some (c, l, cur) else st z) := by
  refine ⟨h.row.of_block (hc.block tb h.row.lt (fun e => h.far.1 e)), hm, h.forest.of_own (fun j hj => hc.block j (h.forest.fresh j hj).2 (fun e => h.far.2.2.1 (by rw [← e]; exact hj))) hc.size (h.forest.below.trans (hc.below h.forest.below.size (fun j e => by rw [e]; exact h.far.2.2.2.2))), h.far, fun z => ?_⟩
  subst hf
  by_cases hx : z = x
  · subst hx
    exact .inr ⟨c, v, l, cur, by simp, by simp, ho.of_chg hc (fun j e e5 => (hv j e).2.1 e5), hv⟩
  · rcases h.vals z with ⟨h1, h2⟩ | ⟨c', v', l', cur', e1, e2, e3, e4⟩
    · exact .inl ⟨by simp [hx, h1], by simp [hx, h2]⟩
    · exact .inr ⟨c', v', l', cur', by simp [hx, e1], by simp [hx, e2], e3.of_chg hc (fun j e e5 => (e4 j e).2.1 e5), e4⟩
theorem run_field0 (c cur : Int) (v : Value) (W : World) : (Instr.field 157 (.agg #[.int .i64 c, v, .int .i64 cur]) 0).run Try.prog W = .ok (.int .i64 c) W := by kernel_rfl
theorem run_field1 (c cur : Int) (v : Value) (W : World) : (Instr.field 157 (.agg #[.int .i64 c, v, .int .i64 cur]) 1).run Try.prog W = .ok (.agg #[v, .int .i64 cur]) W := by kernel_rfl
set_option maxRecDepth 100000 in
set_option maxHeartbeats 4000000 in
theorem region_Child_no (r e0 : Int) (hl : -9223372036854775808 ≤ r) (hm : r ≤ 9223372036854775807) (he : e0 ≠ 0) (h : TreesOver w0 w tb O N S k st) (hr : findV S r = (0, e0)) :
    Calls Try.prog 95 #[.pointer (some ⟨tb, 0, none⟩), .int .i64 r] w fun e w' => e = .returned (.tuple #[.int .i64 0, .int .i64 e0]) ∧ Below w.heap.size w w' := by
  obtain ⟨mb, Fb, own, f, h0, h1, h2, h3, h4⟩ := h.ex
  have K1 := region_find r hl hm h0
  rw [hr] at K1
  replace K1 := Lib.hid K1
  have g1 : (e0 != 0) = true := by simpa using he
  clear h h0 h1 h2 h3 h4 hr
  go_enter Try.func95, Try.ntmps95
  go_wp2_with fail
  refine K1.out.mono ?_
  rintro e w1 ⟨rfl, b1⟩
  go_wp2_with fail
  exact bodyPost_ret (v := .tuple #[.int .i64 0, .int .i64 e0]) (by simp [results, Try.results95, go_sem]) rfl ⟨rfl, b1⟩
set_option maxRecDepth 100000 in
set_option maxHeartbeats 4000000 in
theorem region_Child (r : Int) (q : Nat) {c cur : Int} {l : List Int} {p : Nat} {cl' : List Nat} {fr' : Nat} (hl : -9223372036854775808 ≤ r) (hm : r ≤ 9223372036854775807) (hk : k < 100000) (h : TreesOver w0 w tb O N S k st) (hr : findV S r = ((q : Int), 0)) (hst : st (q : Int) = some (c, l, cur)) (hp : pickP S.cl S.fr 4096 = some (p, cl', fr')) :
    Calls Try.prog 95 #[.pointer (some ⟨tb, 0, none⟩), .int .i64 r] w (MadeReg w0 tb O N S k st q (q : Int) p c w) := by
  obtain ⟨mb, Fb, own, f, h0, h1, h2, h3, h4⟩ := h.ex
  have K1 := region_find r hl hm h0
  rw [hr] at K1
  replace K1 := Lib.hid K1
  have hin := find_in hr
  have hqO : q ∈ S.O := in_ints.1 hin
  have hqN : q ∈ N := (h.rel.mem q).2 hqO
  have hql : q < 4096 := h0.forest.fi.lt hqO
  obtain ⟨v, hv1, hv2, hv3⟩ := h0.tell hst
  have e1 : S.toldC 4096 (q : Int) = .tuple #[.int .i64 (p : Int), .int .i64 (S.g.getD p 0), .bool true] := by unfold FSt.toldC; rw [if_pos hin]; unfold FSt.told; rw [hp]
  have e2 : S.child 4096 (q : Int) = S.add 4096 q (q : Int) := by unfold FSt.child; rw [if_pos hin]; rfl
  have hpl : p < 4096 := (h0.forest.fi.s.pick hp).2.2.1
  have bp : BdI (p : Int) := ⟨by omega, by omega⟩
  have bq : BdI (q : Int) := ⟨by omega, by omega⟩
  have K2 : Hid (∀ W, TreesAt w0 W tb mb Fb own S k f st → Calls Try.prog 40 #[.pointer (some ⟨Fb, 0, none⟩), .int .i64 (q : Int)] W fun e w' => e = .returned (.tuple #[.int .i64 (p : Int), .int .i64 (S.g.getD p 0), .bool true]) ∧ OverStep w0 W own Fb 4096 (S.add 4096 q (q : Int)) w') := Lib.hid (fun W hh => by
    have := overf_Child (q : Int) hh.forest
    rw [e1, e2] at this
    exact this)
  have K3 : Hid (∀ g W own' S', TreesAt w0 W tb mb Fb own' S' k f st → Calls Try.prog 144 #[.pointer (some ⟨tb, 0, none⟩), .int .i64 c, .int .i64 (p : Int), .int .i64 g, .bool true] W _) := Lib.hid (fun g W own' S' hh => region_made c (p : Int) g bp hk hh)
  have KL : Hid (∀ W own' S', TreesAt w0 W tb mb Fb own' S' k f st → (Instr.lookup 118 (.map (some mb)) (.int .i64 (q : Int)) false).run Try.prog W = .ok (.agg #[.int .i64 c, v, .int .i64 cur]) W) := Lib.hid (fun W own' S' hh => by
    have := hh.map.look0 (q : Int) bq
    rw [hv1] at this
    exact this)
  have fin : Hid (∀ wa w1 own1 w2, Below w.heap.size w wa → TreesAt w0 w1 tb mb Fb own1 (S.add 4096 q (q : Int)) k f st → Chg own wa w1 → (∀ j, own1 j → own j ∨ wa.heap.size ≤ j) → TreesAt w0 w2 tb mb Fb own1 (S.add 4096 q (q : Int)) (k + 1) (fun z => if z = (p : Int) then some (regV c (.slice none 0 0) 0) else f z) (fun z => if z = (p : Int) then some (c, [], 0) else st z) → Chg (fun j => j = mb) w1 w2 →
      TreesStep w0 w tb O (N ++ [p]) (S.add 4096 q (q : Int)) (k + 1) (stNew st p c) w2) := Lib.hid (fun wa w1 own1 w2 ba a1 a2 a3 a4 a5 => by
    refine h.step (mb := mb) (Fb := Fb) (own := own1) ((Chg.of_below ba).trans ((a2.mono (fun j _ hj => h3 j hj)).trans (a5.mono (fun j _ hj => by rw [hj]; exact h2)))) a4 h1 (.inl h2) (fun j hj => (a3 j hj).imp (h3 j) (fun h9 => Nat.le_trans ba.size h9)) (fun x c' v cur e j hj => ?_) (h.ord.step h0.forest.fi h.rel h0.forest.ulen hp (.inr ⟨q, hqN, rfl⟩)) (h.rel.add h0.forest.fi h0.forest.ulen hp (.inr ⟨hql, rfl⟩))
    split at e
    · obtain ⟨-, rfl, -⟩ := regV_inj (Option.some.inj e); cases hj
    · exact .inl (h4 x c' v cur e j hj))
  have H0 := Lib.hid h0
  unfold MadeReg
  generalize S.g.getD p 0 = g at *
  have HBP := Lib.hid bp
  clear h h0 h1 h2 h3 h4 hp e1 e2 hpl bp bq hin hqO hqN hql hv1 hv2 hv3 hr hst
  go_enter Try.func95, Try.ntmps95
  go_wp2_with fail
  refine K1.out.mono ?_
  rintro e wa ⟨rfl, ba⟩
  have ta := H0.out.keep ba
  have da : wa.cell? ⟨tb, 0, none⟩ = some (.pointer (some ⟨Fb, 0, none⟩)) := (ta.row.cell 0).trans rfl
  have TA := Lib.hid ta
  have BA := Lib.hid ba
  clear ta ba
  go_wp2_with fail
  refine (K2.out wa TA.out).mono ?_
  rintro e w1 ⟨rfl, s1⟩
  obtain ⟨own1, t1, c1, c2⟩ := TA.out.forest_step s1
  have K4 := Lib.hid (K3.out g w1 own1 _ t1)
  have l1 := KL.out w1 own1 _ t1
  have d1 : w1.cell? ⟨tb, 1, none⟩ = some (.map (some mb)) := (t1.row.cell 1).trans rfl
  have T1 := Lib.hid t1
  have C1 := Lib.hid c1
  have C2 := Lib.hid c2
  have hf0 := run_field0 c cur v w1
  clear s1 t1 c1 c2 da
  go_wp2_with fail
  refine K4.out.mono ?_
  rintro e w2 ⟨rfl, t2, c2⟩
  have HF := Lib.hid (fin.out wa w1 own1 w2 BA.out T1.out C1.out C2.out t2 c2)
  clear t2 c2 fin l1 d1
  go_wp2_with fail
  exact bodyPost_ret (v := .tuple #[.int .i64 (PH.put 2 p g 0).1, .int .i64 (PH.put 2 p g 0).2]) (by simp [results, Try.results95, go_sem]) rfl ⟨rfl, HF.out⟩
end Go.Proofs.Ytdhcmnbajkpjiaa
/-
  How many bits of a number are set: the way by halves of words tells just that; plain arithmetic.
-/
namespace Go.Proofs.Ytdhcmnbajkpjiaa.PN

def pop (n : Nat) : Nat := if h : n = 0 then 0 else n % 2 + pop (n / 2)
termination_by n
decreasing_by omega

theorem pop_zero : pop 0 = 0 := by unfold pop; simp
theorem pop_step (n : Nat) : pop n = n % 2 + pop (n / 2) := by
  by_cases h : n = 0
  · subst h; simp [pop_zero]
  · conv => lhs; unfold pop
    simp [h]
theorem pop_pos (n : Nat) (h : 0 < n) : 0 < pop n := by
  induction n using Nat.strongRecOn with
  | ind n ih =>
    rw [pop_step]
    by_cases h2 : n % 2 = 0
    · have := ih (n / 2) (by omega) (by omega)
      omega
    · omega
theorem pop_one : pop 1 = 1 := by rw [pop_step]; simp [pop_zero]
theorem pop_even (n : Nat) (h : n % 2 = 0) : pop n = pop (n / 2) := by rw [pop_step, h]; simp
theorem pop_odd (n : Nat) (h : n % 2 = 1) (h1 : 1 < n) : 2 ≤ pop n := by
  rw [pop_step, h]
  have := pop_pos (n / 2) (by omega)
  omega
theorem pop_add (k : Nat) : ∀ b y : Nat, b < 2 ^ k → pop (b + 2 ^ k * y) = pop b + pop y := by
  induction k with
  | zero => intro b y h; obtain rfl : b = 0 := by simpa using h
            simp [pop_zero]
  | succ k ih =>
    intro b y h
    have e2 : 2 ^ (k + 1) * y = 2 * (2 ^ k * y) := by rw [Nat.pow_succ]; ac_rfl
    have h' : b < 2 * 2 ^ k := by rw [Nat.pow_succ] at h; omega
    rw [pop_step, pop_step b]
    have e3 : (b + 2 ^ (k + 1) * y) % 2 = b % 2 := by rw [e2]; omega
    have e4 : (b + 2 ^ (k + 1) * y) / 2 = b / 2 + 2 ^ k * y := by rw [e2]; omega
    rw [e3, e4, ih (b / 2) y (by omega)]
    omega

def val : List Nat → Nat
  | [] => 0
  | b :: l => b + 256 * val l

theorem and_byte (b y m M : Nat) (hb : b < 256) (hm : m < 256) : (b + 256 * y) &&& (m + 256 * M) = (b &&& m) + 256 * (y &&& M) := by
  have hbm : b &&& m < 2 ^ 8 := Nat.lt_of_le_of_lt Nat.and_le_left hb
  apply Nat.eq_of_testBit_eq
  intro i
  rw [Nat.testBit_and, Nat.add_comm b, Nat.add_comm m, Nat.add_comm (b &&& m), show (256 : Nat) = 2 ^ 8 from rfl,
    Nat.testBit_two_pow_mul_add y hb, Nat.testBit_two_pow_mul_add M hm, Nat.testBit_two_pow_mul_add (y &&& M) hbm]
  split <;> simp [Nat.testBit_and]

theorem shr_and_byte (s b y m M : Nat) (hs : s ≤ 8) (hb : b < 256) (hm : m < 2 ^ (8 - s)) :
    ((b + 256 * y) / 2 ^ s) &&& (m + 256 * M) = ((b / 2 ^ s) &&& m) + 256 * ((y / 2 ^ s) &&& M) := by
  have hle : 2 ^ (8 - s) ≤ 2 ^ 8 := Nat.pow_le_pow_right (by omega) (by omega)
  have hm' : m < 2 ^ 8 := by omega
  have hbs : b / 2 ^ s < 2 ^ 8 := Nat.lt_of_le_of_lt (Nat.div_le_self _ _) hb
  have hbm : (b / 2 ^ s) &&& m < 2 ^ 8 := Nat.lt_of_le_of_lt Nat.and_le_left hbs
  apply Nat.eq_of_testBit_eq
  intro i
  rw [Nat.testBit_and, Nat.testBit_div_two_pow, Nat.add_comm b, Nat.add_comm m, Nat.add_comm ((b / 2 ^ s) &&& m), show (256 : Nat) = 2 ^ 8 from rfl,
    Nat.testBit_two_pow_mul_add y hb, Nat.testBit_two_pow_mul_add M hm', Nat.testBit_two_pow_mul_add _ hbm]
  by_cases h8 : i < 8
  · simp only [h8, if_true]
    by_cases h : i + s < 8
    · rw [if_pos h]; simp [Nat.testBit_and, Nat.testBit_div_two_pow]
    · rw [if_neg h]
      have : m.testBit i = false := Nat.testBit_lt_two_pow (Nat.lt_of_lt_of_le hm (Nat.pow_le_pow_right (by omega) (by omega)))
      simp [Nat.testBit_and, this]
  · simp only [h8, if_false]
    rw [if_neg (by omega), Nat.testBit_and, Nat.testBit_div_two_pow]
    congr 2
    omega

theorem and_val (m : Nat) (hm : m < 256) : ∀ l : List Nat, (∀ b ∈ l, b < 256) → val l &&& val (List.replicate l.length m) = val (l.map (· &&& m))
  | [], _ => by simp [val]
  | b :: l, h => by
    show (b + 256 * val l) &&& (m + 256 * val (List.replicate l.length m)) = _
    rw [and_byte _ _ _ _ (h b (by simp)) hm, and_val m hm l (fun x hx => h x (by simp [hx]))]
    rfl
theorem shr_and_val (s m : Nat) (hs : s ≤ 8) (hm : m < 2 ^ (8 - s)) : ∀ l : List Nat, (∀ b ∈ l, b < 256) → (val l / 2 ^ s) &&& val (List.replicate l.length m) = val (l.map (fun b => (b / 2 ^ s) &&& m))
  | [], _ => by simp [val]
  | b :: l, h => by
    show ((b + 256 * val l) / 2 ^ s) &&& (m + 256 * val (List.replicate l.length m)) = _
    rw [shr_and_byte s _ _ _ _ hs (h b (by simp)) hm, shr_and_val s m hs hm l (fun x hx => h x (by simp [hx]))]
    rfl
theorem val_add (f g : Nat → Nat) : ∀ l : List Nat, val (l.map f) + val (l.map g) = val (l.map fun b => f b + g b)
  | [] => rfl
  | b :: l => by
    have := val_add f g l
    simp only [List.map_cons, val] at this ⊢
    omega
theorem pop_val : ∀ l : List Nat, (∀ b ∈ l, b < 256) → pop (val l) = (l.map pop).sum
  | [], _ => pop_zero
  | b :: l, h => by
    have h1 := pop_add 8 b (val l) (h b (by simp))
    have h2 := pop_val l (fun x hx => h x (by simp [hx]))
    simp only [List.map_cons, List.sum_cons, val]
    rw [← h2]
    exact h1

def g1 (b : Nat) : Nat := ((b / 2) &&& 85) + (b &&& 85)
def g2 (b : Nat) : Nat := ((b / 4) &&& 51) + (b &&& 51)
def g3 (b : Nat) : Nat := (b / 16 + b) % 16
theorem bytes_ok : ∀ b : Fin 256, g1 b < 256 ∧ g2 (g1 b) < 256 ∧ g2 (g1 b) / 16 ≤ 4 ∧ g2 (g1 b) % 16 ≤ 4 ∧ g3 (g2 (g1 b)) = pop b ∧ pop b ≤ 8 := by
  decide +kernel

def m0 : Nat := 6148914691236517205
def m1 : Nat := 3689348814741910323
def m2 : Nat := 1085102592571150095

/-- The way by halves. -/
def swar (x : Nat) : Nat :=
  let x1 := ((x / 2) &&& m0) + (x &&& m0)
  let x2 := ((x1 / 4) &&& m1) + (x1 &&& m1)
  let x3 := (x2 / 16 + x2) &&& m2
  let x4 := x3 + x3 / 256
  let x5 := x4 + x4 / 65536
  let x6 := x5 + x5 / 4294967296
  x6 % 128

theorem nib (c0 c1 c2 c3 c4 c5 c6 c7 : Nat) (l0 : c0 / 16 ≤ 4 ∧ c0 % 16 ≤ 4) (l1 : c1 / 16 ≤ 4 ∧ c1 % 16 ≤ 4) (l2 : c2 / 16 ≤ 4 ∧ c2 % 16 ≤ 4) (l3 : c3 / 16 ≤ 4 ∧ c3 % 16 ≤ 4)
    (l4 : c4 / 16 ≤ 4 ∧ c4 % 16 ≤ 4) (l5 : c5 / 16 ≤ 4 ∧ c5 % 16 ≤ 4) (l6 : c6 / 16 ≤ 4 ∧ c6 % 16 ≤ 4) (l7 : c7 / 16 ≤ 4 ∧ c7 % 16 ≤ 4) :
    (val [c0, c1, c2, c3, c4, c5, c6, c7] / 16 + val [c0, c1, c2, c3, c4, c5, c6, c7]) &&& m2 = val [g3 c0, g3 c1, g3 c2, g3 c3, g3 c4, g3 c5, g3 c6, g3 c7] := by
  have e : val [c0, c1, c2, c3, c4, c5, c6, c7] / 16 + val [c0, c1, c2, c3, c4, c5, c6, c7] =
      val [c0 / 16 + c0 + 16 * (c1 % 16), c1 / 16 + c1 + 16 * (c2 % 16), c2 / 16 + c2 + 16 * (c3 % 16), c3 / 16 + c3 + 16 * (c4 % 16), c4 / 16 + c4 + 16 * (c5 % 16), c5 / 16 + c5 + 16 * (c6 % 16), c6 / 16 + c6 + 16 * (c7 % 16), c7 / 16 + c7] := by
    simp only [val]; omega
  have hm : m2 = val (List.replicate 8 15) := by decide +kernel
  rw [e, hm]
  have := and_val 15 (by omega) [c0 / 16 + c0 + 16 * (c1 % 16), c1 / 16 + c1 + 16 * (c2 % 16), c2 / 16 + c2 + 16 * (c3 % 16), c3 / 16 + c3 + 16 * (c4 % 16), c4 / 16 + c4 + 16 * (c5 % 16), c5 / 16 + c5 + 16 * (c6 % 16), c6 / 16 + c6 + 16 * (c7 % 16), c7 / 16 + c7] (by
    intro b hb
    simp only [List.mem_cons, List.not_mem_nil, or_false] at hb
    omega)
  simp only [List.length_cons, List.length_nil] at this
  rw [this]
  have a15 : ∀ n : Nat, n &&& 15 = n % 16 := fun n => Nat.and_two_pow_sub_one_eq_mod n 4
  simp only [List.map_cons, List.map_nil, a15, g3]
  simp only [Nat.add_mul_mod_self_left]

theorem low (d0 d1 d2 d3 d4 d5 d6 d7 : Nat) (h0 : d0 ≤ 8) (h1 : d1 ≤ 8) (h2 : d2 ≤ 8) (h3 : d3 ≤ 8) (h4 : d4 ≤ 8) (h5 : d5 ≤ 8) (h6 : d6 ≤ 8) (h7 : d7 ≤ 8) (x3 x4 x5 x6 : Nat)
    (e3 : x3 = val [d0, d1, d2, d3, d4, d5, d6, d7]) (e4 : x4 = x3 + x3 / 256) (e5 : x5 = x4 + x4 / 65536) (e6 : x6 = x5 + x5 / 4294967296) : x6 % 128 = d0 + d1 + d2 + d3 + d4 + d5 + d6 + d7 := by
  have a3 : x3 / 256 = val [d1, d2, d3, d4, d5, d6, d7] := by rw [e3]; simp only [val]; omega
  have a4 : x4 = val [d0 + d1, d1 + d2, d2 + d3, d3 + d4, d4 + d5, d5 + d6, d6 + d7, d7] := by rw [e4, a3, e3]; simp only [val]; omega
  have b4 : x4 / 65536 = val [d2 + d3, d3 + d4, d4 + d5, d5 + d6, d6 + d7, d7] := by rw [a4]; simp only [val]; omega
  have a5 : x5 = val [d0 + d1 + (d2 + d3), d1 + d2 + (d3 + d4), d2 + d3 + (d4 + d5), d3 + d4 + (d5 + d6), d4 + d5 + (d6 + d7), d5 + d6 + d7, d6 + d7, d7] := by rw [e5, b4, a4]; simp only [val]; omega
  have b5 : x5 / 4294967296 = val [d4 + d5 + (d6 + d7), d5 + d6 + d7, d6 + d7, d7] := by rw [a5]; simp only [val]; omega
  rw [e6, b5, a5]
  simp only [val]
  omega

theorem swar_pop (x : Nat) (hx : x < 18446744073709551616) : swar x = pop x := by
  obtain ⟨b0, b1, b2, b3, b4, b5, b6, b7, hv, k0, k1, k2, k3, k4, k5, k6, k7⟩ : ∃ b0 b1 b2 b3 b4 b5 b6 b7 : Nat, x = val [b0, b1, b2, b3, b4, b5, b6, b7] ∧ b0 < 256 ∧ b1 < 256 ∧ b2 < 256 ∧ b3 < 256 ∧ b4 < 256 ∧ b5 < 256 ∧ b6 < 256 ∧ b7 < 256 :=
    ⟨x % 256, x / 256 % 256, x / 65536 % 256, x / 16777216 % 256, x / 4294967296 % 256, x / 1099511627776 % 256, x / 281474976710656 % 256, x / 72057594037927936, by simp only [val]; omega, by omega, by omega, by omega, by omega, by omega, by omega, by omega, by omega⟩
  have hb : ∀ b ∈ [b0, b1, b2, b3, b4, b5, b6, b7], b < 256 := by
    intro b hb
    simp only [List.mem_cons, List.not_mem_nil, or_false] at hb
    omega
  have P : ∀ b ∈ [b0, b1, b2, b3, b4, b5, b6, b7], g1 b < 256 ∧ g2 (g1 b) < 256 ∧ g2 (g1 b) / 16 ≤ 4 ∧ g2 (g1 b) % 16 ≤ 4 ∧ g3 (g2 (g1 b)) = pop b ∧ pop b ≤ 8 := fun b h => bytes_ok ⟨b, hb b h⟩
  have q0 := P b0 (by simp)
  have q1 := P b1 (by simp)
  have q2 := P b2 (by simp)
  have q3 := P b3 (by simp)
  have q4 := P b4 (by simp)
  have q5 := P b5 (by simp)
  have q6 := P b6 (by simp)
  have q7 := P b7 (by simp)
  have hm0 : m0 = val (List.replicate 8 85) := by decide +kernel
  have hm1 : m1 = val (List.replicate 8 51) := by decide +kernel
  have s1 : ((x / 2) &&& m0) + (x &&& m0) = val ([b0, b1, b2, b3, b4, b5, b6, b7].map g1) := by
    rw [hv, hm0]
    have a := shr_and_val 1 85 (by omega) (by omega) _ hb
    have b := and_val 85 (by omega) _ hb
    simp only [List.length_cons, List.length_nil] at a b
    rw [show (2 : Nat) = 2 ^ 1 from rfl, a, b, val_add]
    rfl
  have hb1 : ∀ b ∈ [b0, b1, b2, b3, b4, b5, b6, b7].map g1, b < 256 := by
    intro b h
    obtain ⟨c, hc, rfl⟩ := List.mem_map.1 h
    exact (P c hc).1
  have s2 : ((((x / 2) &&& m0) + (x &&& m0)) / 4 &&& m1) + ((((x / 2) &&& m0) + (x &&& m0)) &&& m1) = val (([b0, b1, b2, b3, b4, b5, b6, b7].map g1).map g2) := by
    rw [s1, hm1]
    have a := shr_and_val 2 51 (by omega) (by omega) _ hb1
    have b := and_val 51 (by omega) _ hb1
    simp only [List.length_cons, List.length_nil, List.length_map] at a b
    rw [show (4 : Nat) = 2 ^ 2 from rfl, a, b, val_add]
    rfl
  have hp : pop x = pop b0 + pop b1 + pop b2 + pop b3 + pop b4 + pop b5 + pop b6 + pop b7 := by
    rw [hv, pop_val _ hb]
    simp only [List.map_cons, List.map_nil, List.sum_cons, List.sum_nil]
    omega
  rw [hp]
  refine low (pop b0) (pop b1) (pop b2) (pop b3) (pop b4) (pop b5) (pop b6) (pop b7) (by omega) (by omega) (by omega) (by omega) (by omega) (by omega) (by omega) (by omega) _ _ _ _ ?_ rfl rfl rfl
  rw [s2]
  simp only [List.map_cons, List.map_nil]
  rw [nib _ _ _ _ _ _ _ _ ⟨q0.2.2.1, q0.2.2.2.1⟩ ⟨q1.2.2.1, q1.2.2.2.1⟩ ⟨q2.2.2.1, q2.2.2.2.1⟩ ⟨q3.2.2.1, q3.2.2.2.1⟩ ⟨q4.2.2.1, q4.2.2.2.1⟩ ⟨q5.2.2.1, q5.2.2.2.1⟩ ⟨q6.2.2.1, q6.2.2.2.1⟩ ⟨q7.2.2.1, q7.2.2.2.1⟩]
  rw [q0.2.2.2.2.1, q1.2.2.2.2.1, q2.2.2.2.2.1, q3.2.2.2.2.1, q4.2.2.2.2.1, q5.2.2.2.2.1, q6.2.2.2.2.1, q7.2.2.2.2.1]
end Go.Proofs.Ytdhcmnbajkpjiaa.PN
/-
  Plain arithmetic of layer 1, with no program in sight.
-/
namespace Go.Proofs.Ytdhcmnbajkpjiaa.PN

def fits (x : Int) : Bool := decide (-9223372036854775808 ≤ x) && decide (x ≤ 9223372036854775807)
def add (a b : Int) : Int × Bool := if fits (a + b) then (a + b, true) else (0, false)
def sub (a b : Int) : Int × Bool := if fits (a - b) then (a - b, true) else (0, false)
def mul (a b : Int) : Int × Bool := if fits (a * b) then (a * b, true) else (0, false)
def ceil (a b : Int) : Int × Bool := if a < 0 ∨ b < 1 then (0, false) else ((a + (b - 1)) / b, true)

theorem fits_iff (x : Int) : fits x = true ↔ -9223372036854775808 ≤ x ∧ x ≤ 9223372036854775807 := by simp [fits]
theorem fits_not (x : Int) : fits x = false ↔ (x < -9223372036854775808 ∨ 9223372036854775807 < x) := by
  rw [← Bool.not_eq_true, fits_iff]; omega
theorem add_yes {a b : Int} (h : fits (a + b) = true) : add a b = (a + b, true) := by simp [add, h]
theorem add_no {a b : Int} (h : fits (a + b) = false) : add a b = (0, false) := by simp [add, h]
theorem sub_yes {a b : Int} (h : fits (a - b) = true) : sub a b = (a - b, true) := by simp [sub, h]
theorem sub_no {a b : Int} (h : fits (a - b) = false) : sub a b = (0, false) := by simp [sub, h]
theorem mul_yes {a b : Int} (h : fits (a * b) = true) : mul a b = (a * b, true) := by simp [mul, h]
theorem mul_no {a b : Int} (h : fits (a * b) = false) : mul a b = (0, false) := by simp [mul, h]

theorem add_range (a b : Int) : -9223372036854775808 ≤ (add a b).1 ∧ (add a b).1 ≤ 9223372036854775807 := by
  unfold add; split
  · rename_i h; exact (fits_iff _).1 h
  · simp
theorem sub_range (a b : Int) : -9223372036854775808 ≤ (sub a b).1 ∧ (sub a b).1 ≤ 9223372036854775807 := by
  unfold sub; split
  · rename_i h; exact (fits_iff _).1 h
  · simp
theorem mul_range (a b : Int) : -9223372036854775808 ≤ (mul a b).1 ∧ (mul a b).1 ≤ 9223372036854775807 := by
  unfold mul; split
  · rename_i h; exact (fits_iff _).1 h
  · simp
end Go.Proofs.Ytdhcmnbajkpjiaa.PN
/-
  Powers of two and the next multiple, as numbers: plain arithmetic.
-/
namespace Go.Proofs.Ytdhcmnbajkpjiaa.PN

def power (n : Int) : Bool := decide (0 < n) && (pop n.toNat == 1)
theorem power_pos {n : Int} (h : power n = true) : 0 < n := by
  simp only [power, Bool.and_eq_true, decide_eq_true_eq] at h; exact h.1
def up (n b : Int) : Int := (n + b - 1) - (n + b - 1) % b
def align (n b : Int) : Int × Bool := if n < 0 ∨ power b = false then (0, false) else if up n b ≤ 9223372036854775807 then (up n b, true) else (0, false)
theorem align_bad {n b : Int} (h : n < 0 ∨ power b = false) : align n b = (0, false) := by unfold align; rw [if_pos h]
theorem align_val {n b : Int} (h0 : 0 ≤ n) (hb : power b = true) : align n b = if up n b ≤ 9223372036854775807 then (up n b, true) else (0, false) := by
  unfold align; rw [if_neg (by rw [hb]; simp; omega)]
theorem up_bd {n b : Int} (h0 : 0 ≤ n) (hb : 0 < b) : n ≤ up n b ∧ up n b < n + b ∧ up n b % b = 0 ∧ 0 ≤ up n b := by
  have m0 : 0 ≤ (n + b - 1) % b := Int.emod_nonneg _ (by omega)
  have m1 : (n + b - 1) % b < b := Int.emod_lt_of_pos _ hb
  have hd := Int.mul_ediv_add_emod (n + b - 1) b
  have e : up n b = b * ((n + b - 1) / b) := by unfold up; omega
  refine ⟨by unfold up; omega, by unfold up; omega, ?_, by unfold up; omega⟩
  rw [e]; exact Int.mul_emod_right _ _
/-- The other way: by what is left. -/
theorem up_left {n b : Int} (h0 : 0 ≤ n) (hb : 0 < b) : up n b = if n % b = 0 then n else n + (b - n % b) := by
  obtain ⟨u1, u2, u3, _⟩ := up_bd h0 hb
  have m0 : 0 ≤ n % b := Int.emod_nonneg _ (by omega)
  have m1 : n % b < b := Int.emod_lt_of_pos _ hb
  have hn := Int.mul_ediv_add_emod n b
  have hu := Int.mul_ediv_add_emod (up n b) b
  rw [u3] at hu
  split
  · rename_i h
    rw [h] at hn
    have hlt : up n b / b < n / b + 1 := by
      refine Int.lt_of_mul_lt_mul_left (a := b) ?_ (by omega)
      rw [Int.mul_add, Int.mul_one]; omega
    have hle : n / b ≤ up n b / b := by
      refine Int.le_of_mul_le_mul_left (a := b) ?_ hb
      omega
    have : up n b / b = n / b := by omega
    rw [this] at hu
    omega
  · rename_i h
    have hgt : n / b < up n b / b := by
      refine Int.lt_of_mul_lt_mul_left (a := b) ?_ (by omega)
      omega
    have hlt : up n b / b < n / b + 2 := by
      refine Int.lt_of_mul_lt_mul_left (a := b) ?_ (by omega)
      rw [Int.mul_add]; omega
    have : up n b / b = n / b + 1 := by omega
    rw [this, Int.mul_add] at hu
    omega
theorem up_same {n b : Int} (h0 : 0 ≤ n) (hb : 0 < b) (h : n % b = 0) : up n b = n := by rw [up_left h0 hb, if_pos h]
end Go.Proofs.Ytdhcmnbajkpjiaa.PN
/-
  Layer 9 (bump), as numbers: plain arithmetic.
-/
namespace Go.Proofs.Ytdhcmnbajkpjiaa.PB
open PN

def place (c s a k : Int) : Int × Int × Int :=
  if c < 0 ∨ s < 1 ∨ k < 1 ∨ power a = false then (0, 0, 2)
  else if k < s ∨ k < a then (0, 0, 5)
  else if 9223372036854775807 < up c a + s then (0, 0, 6)
  else if k < up c a + s then (0, 0, 9)
  else (up c a, up c a + s, 0)
def waste (c a : Int) : Int := if (align c a).2 then (align c a).1 - c else 0

theorem place_arg {c s a k : Int} (h : c < 0 ∨ s < 1 ∨ k < 1 ∨ power a = false) : place c s a k = (0, 0, 2) := by unfold place; rw [if_pos h]
theorem place_size {c s a k : Int} (h : ¬ (c < 0 ∨ s < 1 ∨ k < 1 ∨ power a = false)) (h2 : k < s ∨ k < a) : place c s a k = (0, 0, 5) := by unfold place; rw [if_neg h, if_pos h2]
theorem place_over {c s a k : Int} (h : ¬ (c < 0 ∨ s < 1 ∨ k < 1 ∨ power a = false)) (h2 : ¬ (k < s ∨ k < a)) (h3 : 9223372036854775807 < up c a + s) : place c s a k = (0, 0, 6) := by unfold place; rw [if_neg h, if_neg h2, if_pos h3]
theorem place_dry {c s a k : Int} (h : ¬ (c < 0 ∨ s < 1 ∨ k < 1 ∨ power a = false)) (h2 : ¬ (k < s ∨ k < a)) (h3 : ¬ 9223372036854775807 < up c a + s) (h4 : k < up c a + s) : place c s a k = (0, 0, 9) := by unfold place; rw [if_neg h, if_neg h2, if_neg h3, if_pos h4]
theorem place_ok {c s a k : Int} (h : ¬ (c < 0 ∨ s < 1 ∨ k < 1 ∨ power a = false)) (h2 : ¬ (k < s ∨ k < a)) (h3 : ¬ 9223372036854775807 < up c a + s) (h4 : ¬ k < up c a + s) : place c s a k = (up c a, up c a + s, 0) := by unfold place; rw [if_neg h, if_neg h2, if_neg h3, if_neg h4]
theorem waste_no {c a : Int} (h : (align c a).2 = false) : waste c a = 0 := by unfold waste; rw [h]; rfl
theorem waste_yes {c a : Int} (h0 : 0 ≤ c) (hp : power a = true) (h : up c a ≤ 9223372036854775807) : waste c a = up c a - c := by
  unfold waste; rw [align_val h0 hp, if_pos h]; rfl
/-- The seven answers. -/
theorem place_cases (c s a k : Int) (hk : k ≤ 9223372036854775807) :
    (place c s a k = (0, 0, 2) ∧ (c < 0 ∨ s < 1 ∨ k < 1 ∨ power a = false)) ∨
    (0 ≤ c ∧ 1 ≤ s ∧ 1 ≤ k ∧ power a = true ∧
      ((place c s a k = (0, 0, 5) ∧ (k < s ∨ k < a)) ∨
      (s ≤ k ∧ a ≤ k ∧ (place c s a k = (0, 0, 6) ∨ place c s a k = (0, 0, 9) ∨
        (place c s a k = (up c a, up c a + s, 0) ∧ up c a + s ≤ k))))) := by
  by_cases h : c < 0 ∨ s < 1 ∨ k < 1 ∨ power a = false
  · exact Or.inl ⟨place_arg h, h⟩
  · refine Or.inr ⟨by omega, by omega, by omega, by cases hp : power a <;> simp_all, ?_⟩
    by_cases h2 : k < s ∨ k < a
    · exact Or.inl ⟨place_size h h2, h2⟩
    · refine Or.inr ⟨by omega, by omega, ?_⟩
      by_cases h3 : 9223372036854775807 < up c a + s
      · exact Or.inl (place_over h h2 h3)
      · by_cases h4 : k < up c a + s
        · exact Or.inr (Or.inl (place_dry h h2 h3 h4))
        · exact Or.inr (Or.inr ⟨place_ok h h2 h3 h4, by omega⟩)
end Go.Proofs.Ytdhcmnbajkpjiaa.PB
/-
  Layer 39 (page), as lists of chunks and a cursor: plain arithmetic.
-/
namespace Go.Proofs.Ytdhcmnbajkpjiaa.PG
set_option linter.unusedVariables false

def fit (i : Int) : Bool := decide (0 ≤ i) && decide (i ≤ 1048575)
/-- The first k may be, and are unlike. -/
def Good (xs : List Int) (k : Nat) : Prop := ∀ j, j < k → fit (xs.getD j 0) = true ∧ xs.getD j 0 ∉ xs.take j
instance (xs : List Int) (k : Nat) : Decidable (Good xs k) := by unfold Good; exact inferInstance
def right (xs : List Int) (c : Int) : Bool := decide (0 ≤ c) && (decide (c = 0) || decide (xs ≠ [])) && decide (Good xs xs.length)
def last (xs : List Int) (c : Int) : Int := if right xs c && decide (xs ≠ []) then xs.getD (xs.length - 1) 0 else -1
/-- chunks, cursor, the chunk laid in, where, what is wrong -/
def lay (xs : List Int) (c s a k : Int) : List Int × Int × Int × Int × Int :=
  if right xs c = false then ([], 0, 0, 0, 2)
  else if (PB.place c s a k).2.2 ≠ 0 then ([], 0, 0, 0, (PB.place c s a k).2.2)
  else if xs = [] then ([], 0, 0, 0, 9)
  else (xs, (PB.place c s a k).2.1, last xs c, (PB.place c s a k).1, 0)
def add (xs : List Int) (c i : Int) : List Int × Int :=
  if right xs c = false ∨ fit i = false then ([], 2)
  else if i ∈ xs then ([], 19)
  else (xs ++ [i], 0)

theorem fit_iff (i : Int) : fit i = true ↔ 0 ≤ i ∧ i ≤ 1048575 := by simp [fit]
theorem good_zero (xs : List Int) : Good xs 0 := fun j h => absurd h (by omega)
theorem good_succ {xs : List Int} {k : Nat} (h : Good xs k) (hf : fit (xs.getD k 0) = true) (hn : xs.getD k 0 ∉ xs.take k) : Good xs (k + 1) := by
  intro j hj
  by_cases e : j = k
  · subst e; exact ⟨hf, hn⟩
  · exact h j (by omega)
theorem right_iff {xs : List Int} {c : Int} : right xs c = true ↔ 0 ≤ c ∧ (c = 0 ∨ xs ≠ []) ∧ Good xs xs.length := by
  simp [right, and_assoc]
/-- Not all may be: one is wrong, or stands ahead already. -/
theorem not_good {xs : List Int} {k : Nat} (hk : k < xs.length) (h : fit (xs.getD k 0) = false ∨ xs.getD k 0 ∈ xs.take k) (c : Int) : right xs c = false := by
  cases hr : right xs c
  · rfl
  · have := (right_iff.1 hr).2.2 k hk
    rcases h with h | h
    · rw [this.1] at h; cases h
    · exact absurd h this.2
end Go.Proofs.Ytdhcmnbajkpjiaa.PG
/-
  Layer 39 (page): a set of numbers in a map of the call's own; is, Right.
-/
namespace Go.Proofs.Ytdhcmnbajkpjiaa
open Go.RowKit
open Go.Maps
set_option linter.unusedVariables false
set_option linter.unusedSimpArgs false
attribute [local go_sem] drewN_alloc drewN_setCell

theorem page_keyed : Keyed Try.prog 3 := int_keyed Try.underlying3
theorem page_zero (w : World) : (zeroValue 4).run Try.prog w = .ok (.bool false) w := by kernel_rfl

/-- Block b is a map that says yes of the first k of xs, and no of all other numbers. -/
def SeenAt (w : World) (b : Nat) (xs : List Int) (k : Nat) : Prop :=
  ∃ D : DataW Unit, w.ownsMap Try.prog 3 (plainElem Try.prog 4) b k D ∧ IsMap D ∧ ∀ x : Int, D.atKey (.int .i64 x) (.lit (.bool false)) = .lit (.bool (decide (x ∈ xs.take k)))

theorem SeenAt.made (w : World) (xs : List Int) : SeenAt (w.alloc (.map #[] 0)) w.heap.size xs 0 :=
  ⟨.map [], World.ownsMap_made _ _ _ _, ⟨[], rfl⟩, fun x => by simp [DataW.atKey]⟩
theorem SeenAt.keep {w w' : World} {b k : Nat} {xs : List Int} (h : SeenAt w b xs k) (hb : w.grownBy w' none) : SeenAt w' b xs k := by
  obtain ⟨D, h1, h2, h3⟩ := h
  exact ⟨D, h1.kept hb (by simp), h2, h3⟩
theorem plainElem_bool_inv {P : Program} {e : TypeId} (he : P.underlying e = some .bool) {v : Value} {z : DataW Unit × List MemPlace} (h : plainElem P e v = some z) : ∃ x, v = .bool x ∧ z = (.lit (.bool x), []) := by
  unfold plainElem at h
  rw [he] at h
  cases v <;> simp at h
  exact ⟨_, rfl, h.symm⟩
theorem SeenAt.look {w : World} {b k : Nat} {xs : List Int} (h : SeenAt w b xs k) (x : Int) (hx : -9223372036854775808 ≤ x ∧ x ≤ 9223372036854775807) :
    (Instr.lookup 164 (.map (some b)) (.int .i64 x) false).run Try.prog w = .ok (.bool (decide (x ∈ xs.take k))) w := by
  obtain ⟨D, h1, h2, h3⟩ := h
  obtain ⟨v, ps, hrun, hv⟩ := h1.lookup page_keyed Try.underlying164 (page_zero w) (plainElem_bool Try.underlying4 false) (keyOf_int_mk (P := Try.prog) (k := 3) Try.underlying3 (WalkArith.wf_i64 hx) : keyOf Try.prog 3 (.int .i64 x) = some (.int .i64 x))
  rw [h3] at hv
  obtain ⟨y, rfl, hy⟩ := plainElem_bool_inv Try.underlying4 hv
  simp at hy
  rw [hrun, hy.1]
theorem SeenAt.store {w : World} {b k : Nat} {xs : List Int} (h : SeenAt w b xs k) (hk : k < xs.length) (hm : k < maxLen) (hx : -9223372036854775808 ≤ xs.getD k 0 ∧ xs.getD k 0 ≤ 9223372036854775807) :
    ∃ w', (Instr.mapUpdate 164 (.map (some b)) (.int .i64 (xs.getD k 0)) (.bool true)).run Try.prog w = .ok () w' ∧ SeenAt w' b xs (k + 1) ∧ w.grownBy w' (some b) := by
  obtain ⟨D, h1, h2, h3⟩ := h
  obtain ⟨w', hrun, ho, hg⟩ := h1.update page_keyed Try.underlying164 hm (keyOf_int_mk (P := Try.prog) (k := 3) Try.underlying3 (WalkArith.wf_i64 hx) : keyOf Try.prog 3 (.int .i64 (xs.getD k 0)) = some (.int .i64 (xs.getD k 0))) (plainElem_bool Try.underlying4 true)
  refine ⟨w', hrun, ⟨_, ho, ?_, ?_⟩, hg⟩
  · obtain ⟨es, rfl⟩ := h2
    exact ⟨_, rfl⟩
  · intro x
    rw [PG.take_succ_getD hk]
    by_cases e : x = xs.getD k 0
    · subst e
      rw [atKey_put_same h2 (by exact trivial)]
      simp
    · rw [atKey_put_other (by simpa using e), h3]
      have e' : decide (x ∈ xs.take k ++ [xs.getD k 0]) = decide (x ∈ xs.take k) := by
        rw [decide_eq_decide, List.mem_append, List.mem_singleton]
        exact ⟨fun h => h.resolve_right e, Or.inl⟩
      rw [e']

theorem page_is (i : Int) (w : World) :
    Calls Try.prog 160 #[.int .i64 i] w fun e w' => e = .returned (.bool (PG.fit i)) ∧ w = w' := by
  by_cases h : 0 ≤ i
  · go_enter Try.func160, Try.ntmps160
    go_wp2_with fail
    go_ret
    exact ⟨ret_bool (by simp [PG.fit, h]), rfl⟩
  · have h' : i < 0 := by omega
    go_enter Try.func160, Try.ntmps160
    go_wp2_with fail
    go_ret
    exact ⟨ret_bool (by simp [PG.fit]; omega), rfl⟩
theorem page_makeMap (n : Nat) (w : World) : (Instr.makeMap 164 (some (.int .i64 (n : Int)))).run Try.prog w = .ok (.map (some w.heap.size)) (w.alloc (.map #[] 0)) := by
  simp [Instr.makeMap, run_underlying Try.underlying164, asInt, asIntOf, Result.andThen]

/-- What holds at the head of Right's loop: S is the map's block. -/
def PRightRel (w : World) (xs : List Int) (S n : Nat) (i : Value) (wr : World) : Prop :=
  ∃ k : Nat, k ≤ n ∧ i = .int .i64 k ∧ PG.Good xs k ∧ SeenAt wr S xs k ∧ Below w.heap.size w wr ∧ S < wr.heap.size

set_option maxHeartbeats 4000000 in
theorem page_Right_some (b off n c : Nat) (cur : Int) (xs : List Int) (w : World) (hn : n ≤ 100000) (hx : xs.length = n) (hn0 : 0 < n) (hb : b < w.heap.size)
    (hc : ∀ i, i < n → w.cell? ⟨b, off + i, none⟩ = some (.int .i64 (xs.getD i 0))) (h0 : 0 ≤ cur) :
    Calls Try.prog 156 #[.agg #[.slice (some ⟨b, off, none⟩) n c, .int .i64 cur]] w fun e w' => e = .returned (.bool (PG.right xs cur)) ∧ Below w.heap.size w w' := by
  have HC := Lib.hid hc
  have HX := Lib.hid hx
  have HM := @page_makeMap
  have j0 : (n : Int) ≠ 0 := by omega
  clear hc hx
  go_enter Try.func156, Try.ntmps156
  go_wp2
  go_loopw [27] (fun i wr => PRightRel w xs (w.heap.size + 1) n i wr) (fun i _ => n - (intOf i).toNat)
  case atStart =>
    have h := SeenAt.made (w.alloc (.cells #[.slice (some ⟨b, off, none⟩) n c, .int .i64 cur] 153)) xs
    have e : (w.alloc (.cells #[.slice (some ⟨b, off, none⟩) n c, .int .i64 cur] 153)).heap.size = w.heap.size + 1 := by simp
    rw [e] at h
    exact ⟨0, Nat.zero_le _, rfl, PG.good_zero _, h, (by repeat (first | exact Below.refl _ _ | assumption | refine bel_drew ?_ | refine bel_drewN ?_ _ | refine bel_alloc ?_ _ | refine bel_set ?_ (by first | (dsimp only; omega) | (simp; done) | (simp; omega)) _ | refine bel_trans ?_ (by assumption))), by simp⟩
  case round =>
    obtain ⟨k, hk, rfl, hgood, hseen, hbel, hS⟩ := hrel
    have HG := Lib.hid hgood
    have HS := Lib.hid hseen
    clear hgood hseen
    by_cases hlt : (k : Int) < n
    · have x0 := (hbel.cell (p := ⟨b, off + k, none⟩) hb).trans (HC.out k (by omega))
      obtain ⟨x, hx⟩ : ∃ x, xs.getD k 0 = x := ⟨_, rfl⟩
      rw [hx] at x0
      have HX1 := Lib.hid hx
      clear hx
      have K1 := page_is x wr
      have j1 : (0 : Int) ≤ (k : Int) := by omega
      rcases hf : PG.fit x with _ | _
      · rw [hf] at K1
        have HR := Lib.hid (PG.not_good (xs := xs) (k := k) (by rw [HX.out]; omega) (.inl (by rw [HX1.out]; exact hf)) cur)
        replace K1 := Lib.hid K1
        clear hf
        go_wp2_with fail
        refine K1.out.mono ?_
        rintro e w5 ⟨rfl, rfl⟩
        go_wp2_with fail
        go_ret
        exact ⟨ret_bool HR.out.symm, (by repeat (first | exact Below.refl _ _ | assumption | refine bel_drew ?_ | refine bel_drewN ?_ _ | refine bel_alloc ?_ _ | refine bel_set ?_ (by first | (dsimp only; omega) | (simp; done) | (simp; omega)) _ | refine bel_trans ?_ (by assumption)))⟩
      · rw [hf] at K1
        replace K1 := Lib.hid K1
        have hfb := (PG.fit_iff x).1 hf
        have L1 := HS.out.look x (by omega)
        rcases hm : decide (x ∈ xs.take k) with _ | _
        · rw [hm] at L1
          obtain ⟨w2, U1, hS2, hg2⟩ := HS.out.store (by rw [HX.out]; omega) (by unfold maxLen; omega) (by rw [HX1.out]; omega)
          rw [HX1.out] at U1
          have hb2 := hbel.grown hg2 hbel.size (fun q hq => by cases hq; omega)
          have hsz2 : w.heap.size + 1 < w2.heap.size := Nat.lt_of_lt_of_le hS hg2.size
          have HG2 := Lib.hid (PG.good_succ HG.out (by rw [HX1.out]; exact hf) (by rw [HX1.out]; simpa using hm))
          replace hS2 := Lib.hid hS2
          clear hf hm hg2 HS HG hfb
          go_wp2_with fail
          refine K1.out.mono ?_
          rintro e w5 ⟨rfl, rfl⟩
          go_wp2_with fail
          go_roundw
          case rel => exact ⟨k + 1, by omega, by go_num, HG2.out, hS2.out, hb2, hsz2⟩
          case measure => simp [intOf]; omega
        · rw [hm] at L1
          have HR := Lib.hid (PG.not_good (xs := xs) (k := k) (by rw [HX.out]; omega) (.inr (by rw [HX1.out]; simpa using hm)) cur)
          clear hf hm hfb
          go_wp2_with fail
          refine K1.out.mono ?_
          rintro e w5 ⟨rfl, rfl⟩
          go_wp2_with fail
          go_ret
          exact ⟨ret_bool HR.out.symm, (by repeat (first | exact Below.refl _ _ | assumption | refine bel_drew ?_ | refine bel_drewN ?_ _ | refine bel_alloc ?_ _ | refine bel_set ?_ (by first | (dsimp only; omega) | (simp; done) | (simp; omega)) _ | refine bel_trans ?_ (by assumption)))⟩
    · have hkn : k = n := by omega
      have hr : PG.right xs cur = true := by
        rw [PG.right_iff]
        refine ⟨h0, Or.inr ?_, ?_⟩
        · intro e; have := HX.out; rw [e] at this; simp at this; omega
        · rw [HX.out, ← hkn]; exact HG.out
      have HE := Lib.hid hr
      clear hkn hr
      go_wp2_with fail
      go_ret
      exact ⟨ret_bool HE.out.symm, (by repeat (first | exact Below.refl _ _ | assumption | refine bel_drew ?_ | refine bel_drewN ?_ _ | refine bel_alloc ?_ _ | refine bel_set ?_ (by first | (dsimp only; omega) | (simp; done) | (simp; omega)) _ | refine bel_trans ?_ (by assumption)))⟩
end Go.Proofs.Ytdhcmnbajkpjiaa
/-
  Layer 39 (page): the reference's Place, Right; slices.Index and slices.Contains of ints; Last.
-/
namespace Go.Proofs.Ytdhcmnbajkpjiaa
open Go.RowKit
set_option linter.unusedVariables false
set_option linter.unusedSimpArgs false
attribute [local go_sem] drewN_alloc drewN_setCell

def PlaceRelP (w : World) (xs : List Int) (x : Int) (n : Nat) (i : Value) (wr : World) : Prop :=
  ∃ k : Nat, k ≤ n ∧ i = .int .i64 k ∧ x ∉ xs.take k ∧ Below w.heap.size w wr
theorem notin_step {xs : List Int} {x y : Int} {k : Nat} (hk : k < xs.length) (h : x ∉ xs.take k) (e : xs.getD k 0 = y) (hne : y ≠ x) : x ∉ xs.take (k + 1) := by
  rw [PG.take_succ_getD hk, List.mem_append, List.mem_singleton, e]
  rintro (h1 | h1)
  · exact h h1
  · exact hne h1.symm

set_option maxRecDepth 100000 in
theorem page_Right_0 (A : Option Addr) (c : Nat) (cur : Int) (w : World) :
    Calls Try.prog 156 #[.agg #[.slice A 0 c, .int .i64 cur]] w fun e w' => e = .returned (.bool (PG.right [] cur)) ∧ Below w.heap.size w w' := by
  by_cases h0 : cur < 0
  · go_enter Try.func156, Try.ntmps156
    go_wp2_with fail
    go_ret
    exact ⟨ret_bool (by simp [PG.right]; omega), (by repeat (first | exact Below.refl _ _ | assumption | refine bel_drew ?_ | refine bel_drewN ?_ _ | refine bel_alloc ?_ _ | refine bel_set ?_ (by first | (dsimp only; omega) | (simp; done) | (simp; omega)) _ | refine bel_trans ?_ (by assumption)))⟩
  by_cases h1 : cur = 0
  · subst h1
    have HM : ∀ w, (Instr.makeMap 164 (some (.int .i64 0))).run Try.prog w = .ok (.map (some w.heap.size)) (w.alloc (.map #[] 0)) := fun w => page_makeMap 0 w
    go_enter Try.func156, Try.ntmps156
    go_wp2_with fail
    refine wp_loop_rounds 1 ?_
    rw [rounds_succ]
    go_wp2_with fail
    go_ret
    exact ⟨ret_bool (by simp [PG.right, PG.Good]), (by repeat (first | exact Below.refl _ _ | assumption | refine bel_drew ?_ | refine bel_drewN ?_ _ | refine bel_alloc ?_ _ | refine bel_set ?_ (by first | (dsimp only; omega) | (simp; done) | (simp; omega)) _ | refine bel_trans ?_ (by assumption)))⟩
  · have hq : (cur != 0) = true := by simpa using h1
    go_enter Try.func156, Try.ntmps156
    go_wp2_with fail
    go_ret
    exact ⟨ret_bool (by simp [PG.right, h1]), (by repeat (first | exact Below.refl _ _ | assumption | refine bel_drew ?_ | refine bel_drewN ?_ _ | refine bel_alloc ?_ _ | refine bel_set ?_ (by first | (dsimp only; omega) | (simp; done) | (simp; omega)) _ | refine bel_trans ?_ (by assumption)))⟩
theorem page_Right_neg (A : Option Addr) (n c : Nat) (cur : Int) (xs : List Int) (w : World) (h0 : cur < 0) :
    Calls Try.prog 156 #[.agg #[.slice A n c, .int .i64 cur]] w fun e w' => e = .returned (.bool (PG.right xs cur)) ∧ Below w.heap.size w w' := by
  go_enter Try.func156, Try.ntmps156
  go_wp2_with fail
  go_ret
  exact ⟨ret_bool (by simp [PG.right]; omega), (by repeat (first | exact Below.refl _ _ | assumption | refine bel_drew ?_ | refine bel_drewN ?_ _ | refine bel_alloc ?_ _ | refine bel_set ?_ (by first | (dsimp only; omega) | (simp; done) | (simp; omega)) _ | refine bel_trans ?_ (by assumption)))⟩
theorem page_Right {A : Option Addr} {n : Nat} {xs : List Int} (c : Nat) (cur : Int) {w : World} (h : IntsAt w A n xs) (hn : n ≤ 100000) :
    Calls Try.prog 156 #[.agg #[.slice A n c, .int .i64 cur]] w fun e w' => e = .returned (.bool (PG.right xs cur)) ∧ Below w.heap.size w w' := by
  by_cases h0 : n = 0
  · subst h0
    have e := List.eq_nil_of_length_eq_zero h.1
    subst e
    exact page_Right_0 A c cur w
  · obtain ⟨b, off, rfl, hb, hc⟩ := h.2.2 (by omega)
    by_cases h1 : cur < 0
    · exact page_Right_neg _ n c cur xs w h1
    · exact page_Right_some b off n c cur xs w hn h.1 (by omega) hb hc (by omega)

def RPRel (w : World) (xs : List Int) (n : Nat) (i : Value) (wr : World) : Prop :=
  ∃ k : Nat, k ≤ n ∧ i = .int .i64 k ∧ PG.Good xs k ∧ Below w.heap.size w wr
end Go.Proofs.Ytdhcmnbajkpjiaa
/-
  Layer 39 (page): slices of ints in memory of the call's own; own; Last.
-/
namespace Go.Proofs.Ytdhcmnbajkpjiaa
open Go.RowKit
set_option linter.unusedVariables false
set_option linter.unusedSimpArgs false
attribute [local go_sem] drewN_alloc drewN_setCell

end Go.Proofs.Ytdhcmnbajkpjiaa
