/- Part 9 of the proof of WalkPaths: lemmas, each with its conditions ahead of it. -/
import Derived.Test.YtdhcmnbajkpjiaaPartWalkPaths8
import Derived.Test.YtdhcmnbajkpjiaaPartWalkPaths7
/-
  Layer 38 (walk): the reference's all and Within.
-/
namespace Go.Proofs.Ytdhcmnbajkpjiaa
open Go.RowKit
open Go.Maps
set_option linter.unusedVariables false
set_option linter.unusedSimpArgs false
attribute [local go_sem] drewN_alloc drewN_setCell

variable {w0 w w' : World} {P : Nat → Prop} {V : Value} {n : Nat} {g : List Int} {O cl : List Nat} {fr : Nat} {N : List Nat} {up : List Int}
def AllRel (w : World) (xs ys : List Int) (m : Nat) (i : Value) (wr : World) : Prop :=
  ∃ k : Nat, k ≤ m ∧ i = .int .i64 k ∧ (∀ j, j < k → ys.getD j 0 ∈ xs) ∧ w = wr
theorem ref38_all {A A2 : Option Addr} {n m : Nat} {xs ys : List Int} (c c2 : Nat) {w : World} (h : IntsAt w A n xs) (h2 : IntsAt w A2 m ys) : Calls Try.prog 135 #[.slice A n c, .slice A2 m c2] w fun e w' => e = .returned (.bool (decide (∀ y ∈ ys, y ∈ xs))) ∧ w = w' := by
  have H1 := Lib.hid h
  have hl := h2.1
  have hm := h2.2.1
  have HC := Lib.hid h2.2.2
  clear h h2
  go_enter Try.func135, Try.ntmps135
  go_wp2_with fail
  go_loopw [5] (fun i wr => AllRel w xs ys m i wr) (fun i _ => m - (intOf i).toNat)
  case atStart => exact ⟨0, Nat.zero_le _, rfl, fun j hj => absurd hj (by omega), rfl⟩
  case round =>
    obtain ⟨k, hk, rfl, hno, rfl⟩ := hrel
    have HN := Lib.hid hno
    clear hno
    by_cases hlt : (k : Int) < (m : Int)
    · obtain ⟨b, off, rfl, hb, hc⟩ := HC.out (by omega)
      have xk := hc k (by omega)
      have HM : Hid (ys.getD k 0 ∈ ys) := Lib.hid (by
        have e : ys.getD k 0 = ys[k]'(by omega) := by simp [List.getD, show k < ys.length by omega]
        rw [e]
        exact List.getElem_mem _)
      have HNX : Hid (ys.getD k 0 ∈ xs → ∀ j, j < k + 1 → ys.getD j 0 ∈ xs) := Lib.hid (fun hq j hj => by
        rcases Nat.lt_or_ge j k with h1 | h1
        · exact HN.out j h1
        · obtain rfl : j = k := by omega
          exact hq)
      obtain ⟨y, hy⟩ : ∃ y, ys.getD k 0 = y := ⟨_, rfl⟩
      rw [hy] at xk HM HNX
      have KH := Lib.hid (ref38_has c y H1.out)
      have j0 : (0 : Int) ≤ (k : Int) := by omega
      have j1 : (k : Int) < (m : Int) := hlt
      clear hc hy
      by_cases hq : y ∈ xs
      · have HE := Lib.hid (HNX.out hq)
        rw [decide_eq_true hq] at KH
        clear hq
        go_wp2_with fail
        refine KH.out.mono ?_
        rintro e w1 ⟨rfl, rfl⟩
        go_wp2_with fail
        go_roundw
        case rel => exact ⟨k + 1, by omega, by go_num, HE.out, rfl⟩
        case measure => simp [intOf] <;> omega
      · have HE : Hid (false = decide (∀ y ∈ ys, y ∈ xs)) := Lib.hid (decide_eq_false (fun hm => hq (hm y HM.out))).symm
        rw [decide_eq_false hq] at KH
        clear hq
        go_wp2_with fail
        refine KH.out.mono ?_
        rintro e w1 ⟨rfl, rfl⟩
        go_wp2_with fail
        go_ret
        exact ⟨ret_bool HE.out, rfl⟩
    · have HE : Hid (true = decide (∀ y ∈ ys, y ∈ xs)) := Lib.hid (decide_eq_true (fun y hm => by
        obtain ⟨j, hj, e⟩ := List.mem_iff_getElem.1 hm
        have := HN.out j (by omega)
        rw [← e]
        simpa [List.getD, hj] using this)).symm
      go_wp2_with fail
      go_ret
      exact ⟨ret_bool HE.out, rfl⟩
/-- Whether a number is a node of another one's subtree. -/
def inW (N : List Nat) (up : List Int) (x t : Int) : Bool := decide ((0 ≤ x ∧ x.toNat ∈ N) ∧ x ∈ ints (preW N up t))
set_option maxRecDepth 100000 in
theorem ref38_Within (x t : Int) (hO : Ord N up) (hN : N.length ≤ 4096) (h : RefF P w V n g O cl fr N up) : Calls Try.prog 82 #[V, .int .i64 x, .int .i64 t] w fun e w' => e = .returned (.bool (inW N up x t)) ∧ Below w.heap.size w w' := by
  have hh := h
  obtain ⟨Ao, co, Ag, cg, Ac, cc, An, cn, Ap, cp, rfl, h1, h2, h3⟩ := h
  obtain ⟨m, hml⟩ : ∃ m, cl.length = m := ⟨_, rfl⟩
  rw [hml] at hh ⊢
  obtain ⟨w0, hw0⟩ : ∃ w0, w.alloc (.cells #[.slice Ao n co, .slice Ag n cg, .slice Ac m cc, .int .i64 (fr : Int), .slice An N.length cn, .slice Ap N.length cp] 58) = w0 := ⟨_, rfl⟩
  have r0 : RowAt w0 w.heap.size 58 [.slice Ao n co, .slice Ag n cg, .slice Ac m cc, .int .i64 (fr : Int), .slice An N.length cn, .slice Ap N.length cp] := by rw [← hw0]; exact RowAt.new w 58 _
  have b0 : Below w.heap.size w w0 := by rw [← hw0]; exact (by repeat (first | exact Below.refl _ _ | assumption | refine bel_drew ?_ | refine bel_drewN ?_ _ | refine bel_alloc ?_ _ | refine bel_set ?_ (by first | (dsimp only; omega) | (simp; done) | (simp; omega)) _ | refine bel_trans ?_ (by assumption)))
  have R0 := Lib.hid r0
  have B0 := Lib.hid b0
  have HW0 := Lib.hid hw0
  have HH := Lib.hid (hh.keep b0)
  clear h1 h2 h3 hml b0 hh hw0 r0
  have KA := Lib.hid (ref37_At x HH.out)
  have c0 : w0.cell? ⟨w.heap.size, 0, none⟩ = some (.slice Ao n co) := by rw [R0.out.cell]; rfl
  have c1 : w0.cell? ⟨w.heap.size, 1, none⟩ = some (.slice Ag n cg) := by rw [R0.out.cell]; rfl
  have c2 : w0.cell? ⟨w.heap.size, 2, none⟩ = some (.slice Ac m cc) := by rw [R0.out.cell]; rfl
  have c3 : w0.cell? ⟨w.heap.size, 3, none⟩ = some (.int .i64 (fr : Int)) := by rw [R0.out.cell]; rfl
  have c4 : w0.cell? ⟨w.heap.size, 4, none⟩ = some (.slice An N.length cn) := by rw [R0.out.cell]; rfl
  have c5 : w0.cell? ⟨w.heap.size, 5, none⟩ = some (.slice Ap N.length cp) := by rw [R0.out.cell]; rfl
  by_cases hx : 0 ≤ x ∧ x.toNat ∈ N
  · have e1 : PC.place N x = (N.idxOf x.toNat : Nat) := by unfold PC.place; rw [if_pos hx]
    obtain ⟨q, hq⟩ : ∃ q, N.idxOf x.toNat = q := ⟨_, rfl⟩
    rw [e1, hq] at KA
    have g0 : (0 : Int) ≤ (q : Int) := by omega
    have HE : Hid (decide (x ∈ ints (preW N up t)) = inW N up x t) := Lib.hid (by unfold inW; exact decide_eq_decide.2 ⟨fun h => ⟨hx, h⟩, fun h => h.2⟩)
    clear e1 hq hx
    go_enter Try.func82, Try.ntmps82
    go_upto_region 1 with (fail)
    rw [HW0.out]
    go_wp2_with fail
    refine KA.out.mono ?_
    rintro e w1 ⟨rfl, b1⟩
    have r1 := R0.out.keep b1
    have KP := Lib.hid (ref38_Pre t hO hN (HH.out.keep b1))
    have B1 := Lib.hid (bel_trans B0.out b1)
    clear KA b1 c0 c1 c2 c3 c4 c5
    have c0 : w1.cell? ⟨w.heap.size, 0, none⟩ = some (.slice Ao n co) := by rw [r1.cell]; rfl
    have c1 : w1.cell? ⟨w.heap.size, 1, none⟩ = some (.slice Ag n cg) := by rw [r1.cell]; rfl
    have c2 : w1.cell? ⟨w.heap.size, 2, none⟩ = some (.slice Ac m cc) := by rw [r1.cell]; rfl
    have c3 : w1.cell? ⟨w.heap.size, 3, none⟩ = some (.int .i64 (fr : Int)) := by rw [r1.cell]; rfl
    have c4 : w1.cell? ⟨w.heap.size, 4, none⟩ = some (.slice An N.length cn) := by rw [r1.cell]; rfl
    have c5 : w1.cell? ⟨w.heap.size, 5, none⟩ = some (.slice Ap N.length cp) := by rw [r1.cell]; rfl
    clear r1
    go_wp2_with fail
    refine KP.out.mono ?_
    rintro e w2 ⟨A2, n2, c2', rfl, i2, b2⟩
    have KH := Lib.hid (ref38_has c2' x i2.1)
    rw [HE.out] at KH
    have B2 := Lib.hid (bel_trans B1.out b2)
    clear KP i2 b2 c0 c1 c2 c3 c4 c5
    go_wp2_with fail
    refine KH.out.mono ?_
    rintro e w3 ⟨rfl, rfl⟩
    clear KH
    go_wp2_with fail
    go_ret
    exact ⟨ret_bool (by simp), B2.out⟩
  · have e1 : PC.place N x = -1 := by unfold PC.place; rw [if_neg hx]
    rw [e1] at KA
    have HE : Hid (false = inW N up x t) := Lib.hid (by unfold inW; exact (decide_eq_false (fun h => hx h.1)).symm)
    clear e1 hx
    go_enter Try.func82, Try.ntmps82
    go_upto_region 1 with (fail)
    rw [HW0.out]
    go_wp2_with fail
    refine KA.out.mono ?_
    rintro e w1 ⟨rfl, b1⟩
    have B1 := Lib.hid (bel_trans B0.out b1)
    clear KA b1 c0 c1 c2 c3 c4 c5
    go_wp2_with fail
    go_ret
    exact ⟨ret_bool HE.out, B1.out⟩
end Go.Proofs.Ytdhcmnbajkpjiaa
/-
  Layer 38 (walk): the reference's Post.
-/
namespace Go.Proofs.Ytdhcmnbajkpjiaa
open Go.RowKit
open Go.Maps
set_option linter.unusedVariables false
set_option linter.unusedSimpArgs false
attribute [local go_sem] drewN_alloc drewN_setCell

variable {w0 w w' : World} {P : Nat → Prop} {V : Value} {n : Nat} {g : List Int} {O cl : List Nat} {fr : Nat} {N : List Nat} {up : List Int}
def PostRel (w1 : World) (post : List Nat) (v : Value) (wr : World) : Prop := ∃ out b, OwnI w1.heap.size wr v (ints out) ∧ out ++ b = post ∧ Below w1.heap.size w1 wr
def FindRel (w1 : World) (L : List Nat) (kid : Nat → List Nat) (out : List Nat) (y : Nat) (a i : Value) (wr : World) : Prop :=
  ∃ k, k ≤ L.length ∧ i = .int .i64 (k : Nat) ∧ Below w1.heap.size w1 wr ∧ ((a = .int .i64 (-1) ∧ ∀ j, j < k → ∀ z, L[j]? = some z → PW.ok kid out z = false) ∨ ∃ j : Nat, a = .int .i64 (j : Nat) ∧ j < L.length ∧ L[j]? = some y)
theorem ok_eq (out : List Nat) (q : Nat) : PW.ok (childW N up) out q = (!decide ((q : Int) ∈ ints out) && decide (∀ y ∈ ints (childW N up q), y ∈ ints out)) := by
  unfold PW.ok
  congr 1
  · simp [in_ints]
  · rw [Bool.eq_iff_iff, List.all_eq_true, decide_eq_true_eq]
    constructor
    · intro h y hy
      unfold ints at hy
      obtain ⟨c, hc, rfl⟩ := List.mem_map.1 hy
      exact in_ints.2 (of_decide_eq_true (h c hc))
    · intro h c hc
      exact decide_eq_true (in_ints.1 (h (c : Int) (in_ints.2 hc)))
theorem find_hit {L : List Nat} {p : Nat → Bool} {y : Nat} (h : L.find? p = some y) {k z : Nat} (hn : ∀ j, j < k → ∀ z, L[j]? = some z → p z = false) (hk : L[k]? = some z) (hp : p z = true) : z = y := by
  have hlt : k < L.length := by
    rcases Nat.lt_or_ge k L.length with h1 | h1
    · exact h1
    · rw [List.getElem?_eq_none h1] at hk; cases hk
  have e1 : L = L.take k ++ z :: L.drop (k + 1) := by
    have e2 : L[k]'hlt = z := by rw [List.getElem?_eq_getElem hlt] at hk; exact Option.some.inj hk
    rw [← e2, List.getElem_cons_drop, List.take_append_drop]
  rw [e1, List.find?_append, List.find?_eq_none.2 (fun x hx => ?_)] at h
  · rw [List.find?_cons_of_pos hp] at h
    simpa using h
  · obtain ⟨j, hj, e⟩ := List.mem_iff_getElem.1 hx
    rw [List.length_take] at hj
    have := hn j (by omega) x (by rw [← e, List.getElem_take, List.getElem?_eq_getElem (by omega)])
    simp [this]
theorem find_miss {L : List Nat} {p : Nat → Bool} {y : Nat} (h : L.find? p = some y) (hn : ∀ j, j < L.length → ∀ z, L[j]? = some z → p z = false) : False := by
  have := List.find?_some h
  have hm := List.mem_of_find?_eq_some h
  obtain ⟨j, hj, e⟩ := List.mem_iff_getElem.1 hm
  have h2 := hn j hj y (by rw [List.getElem?_eq_getElem hj, e])
  rw [h2] at this
  cases this
set_option maxRecDepth 100000 in
set_option maxHeartbeats 16000000 in
theorem ref38_Post (x : Int) (hO : Ord N up) (hN : N.length ≤ 4096) (h : RefF P w V n g O cl fr N up) : Calls Try.prog 75 #[V, .int .i64 x] w (GivesInts w (ints (postW N up x))) := by
  have hh := h
  obtain ⟨Ao, co, Ag, cg, Ac, cc, An, cn, Ap, cp, rfl, h1, h2, h3⟩ := h
  obtain ⟨m, hml⟩ : ∃ m, cl.length = m := ⟨_, rfl⟩
  rw [hml] at hh ⊢
  obtain ⟨w0, hw0⟩ : ∃ w0, w.alloc (.cells #[.slice Ao n co, .slice Ag n cg, .slice Ac m cc, .int .i64 (fr : Int), .slice An N.length cn, .slice Ap N.length cp] 58) = w0 := ⟨_, rfl⟩
  have r0 : RowAt w0 w.heap.size 58 [.slice Ao n co, .slice Ag n cg, .slice Ac m cc, .int .i64 (fr : Int), .slice An N.length cn, .slice Ap N.length cp] := by rw [← hw0]; exact RowAt.new w 58 _
  have b0 : Below w.heap.size w w0 := by rw [← hw0]; exact (by repeat (first | exact Below.refl _ _ | assumption | refine bel_drew ?_ | refine bel_drewN ?_ _ | refine bel_alloc ?_ _ | refine bel_set ?_ (by first | (dsimp only; omega) | (simp; done) | (simp; omega)) _ | refine bel_trans ?_ (by assumption)))
  have R0 := Lib.hid r0
  have B0 := Lib.hid b0
  have HW0 := Lib.hid hw0
  have HH := Lib.hid (hh.keep b0)
  clear h1 h2 h3 hml b0 hh hw0 r0
  have HF : Hid (∀ a b y, postW N up x = a ++ y :: b → (preW N up x).find? (PW.ok (childW N up) a) = some y) := Lib.hid (fun a b y e => by
    by_cases hx : 0 ≤ x ∧ x.toNat ∈ N
    · have nd := PW.post_nodup hO.is x.toNat
      rw [postW_yes hx] at e
      rw [preW_yes hx]
      rw [e] at nd
      exact PW.find_post hO.is.hk x.toNat a a b y e (fun z hz => hz) (fun z hz hza => (List.nodup_append.1 nd).2.2 z hza z hz rfl)
    · rw [postW_no hx] at e; simp at e)
  have hl := preW_len hO x
  have hl2 := postW_len hO x
  have KA := Lib.hid (ref38_Pre x hO hN HH.out)
  obtain ⟨all, hr⟩ : ∃ all, postW N up x = all := ⟨_, rfl⟩
  obtain ⟨L, hL⟩ : ∃ L, preW N up x = L := ⟨_, rfl⟩
  rw [hL] at KA hl hl2
  rw [hr] at hl2 ⊢
  rw [hL, hr] at HF
  obtain ⟨ln, hln⟩ : ∃ ln, L.length = ln := ⟨_, rfl⟩
  have hll : ln ≤ 4096 := by omega
  have hal : all.length = ln := by omega
  have HLN := Lib.hid hln
  have HAL := Lib.hid hal
  have c0 : w0.cell? ⟨w.heap.size, 0, none⟩ = some (.slice Ao n co) := by rw [R0.out.cell]; rfl
  have c1 : w0.cell? ⟨w.heap.size, 1, none⟩ = some (.slice Ag n cg) := by rw [R0.out.cell]; rfl
  have c2 : w0.cell? ⟨w.heap.size, 2, none⟩ = some (.slice Ac m cc) := by rw [R0.out.cell]; rfl
  have c3 : w0.cell? ⟨w.heap.size, 3, none⟩ = some (.int .i64 (fr : Int)) := by rw [R0.out.cell]; rfl
  have c4 : w0.cell? ⟨w.heap.size, 4, none⟩ = some (.slice An N.length cn) := by rw [R0.out.cell]; rfl
  have c5 : w0.cell? ⟨w.heap.size, 5, none⟩ = some (.slice Ap N.length cp) := by rw [R0.out.cell]; rfl
  clear hr hL hl hl2 hln hal
  go_enter Try.func75, Try.ntmps75
  go_upto_region 1 with (fail)
  rw [HW0.out]
  go_wp2_with fail
  refine KA.out.mono ?_
  rintro e w1 ⟨A1, n1, c1', rfl, i1, b1⟩
  have hn1 : n1 = ln := by have := i1.1.1; rw [ints_len, HLN.out] at this; exact this.symm
  subst hn1
  have R1 := Lib.hid (R0.out.keep b1)
  have HH1 := Lib.hid (HH.out.keep b1)
  have I1 := Lib.hid i1.1
  have B1 := Lib.hid (bel_trans B0.out b1)
  clear KA b1 i1 c0 c1 c2 c3 c4 c5 HH R0
  go_wp2_with fail
  go_loopw [6, 7, 8] (fun v a i wr => PostRel w1 all v wr) (fun v _ _ _ => all.length - vlen v)
  case atStart => exact ⟨[], all, OwnI.nil _ _, rfl, Below.refl _ _⟩
  case round =>
    obtain ⟨out, bb, ho, he, hb⟩ := hrel
    obtain ⟨wo, rfl⟩ : ∃ wo, wo = wr := ⟨_, rfl⟩
    obtain ⟨Av, cv, hv9⟩ := own_shape ho
    subst hv9
    have HO1 := Lib.hid ho
    have HB := Lib.hid hb
    have HE := Lib.hid he
    have hol : (ints out).length + bb.length = n1 := by
      have := congrArg List.length he
      rw [List.length_append, HAL.out] at this
      rw [ints_len]; omega
    obtain ⟨ol, hol2⟩ : ∃ ol, (ints out).length = ol := ⟨_, rfl⟩
    rw [hol2] at HO1 hol ⊢
    have HOL := Lib.hid hol2
    clear ho he hb hol2
    cases bb with
    | nil =>
      have HE2 : Hid (out = all) := Lib.hid (by rw [← HE.out, List.append_nil])
      have g0 : ¬ (ol : Int) < (n1 : Int) := by rw [List.length_nil] at hol; omega
      have hol3 : ol ≤ 4096 := by rw [List.length_nil] at hol; omega
      clear hol
      go_wp2_with fail
      go_ret
      exact own_gives (by rw [← HE2.out]; exact HO1.out.mono B1.out.size) (by rw [← HE2.out, HOL.out]; omega) (bel_trans' B1.out HB.out B1.out.size)
    | cons y bb =>
      have HFY := Lib.hid (HF.out out bb y HE.out.symm)
      have HE2 : Hid ((out ++ [y]) ++ bb = all) := Lib.hid (by rw [← HE.out]; simp)
      have g0 : (ol : Int) < (n1 : Int) := by rw [List.length_cons] at hol; omega
      have HOLT : Hid (ol < n1) := Lib.hid (by rw [List.length_cons] at hol; omega)
      clear hol HE
      go_wp2_with fail
      go_loopw [7, 8] (fun a i wr => FindRel wo L (childW N up) out y a i wr) (fun a i _ => n1 - (intOf i).toNat)
      case atStart => exact ⟨0, Nat.zero_le _, rfl, Below.refl _ _, .inl ⟨rfl, fun j hj => absurd hj (by omega)⟩⟩
      case round =>
        obtain ⟨k, hk, rfl, hb9, hc⟩ := hrel
        rw [HLN.out] at hk
        have HB9 := Lib.hid hb9
        have B9 := Lib.hid (bel_trans' HB.out hb9 HB.out.size)
        have s9 := hb9.size
        clear hb9
        rcases hc with ⟨rfl, hno⟩ | ⟨j, rfl, hj, hy⟩
        · have HNO := Lib.hid hno
          clear hno
          have hkn : k < n1 := by
            rcases Nat.lt_or_ge k n1 with h1 | h1
            · exact h1
            · exact (find_miss HFY.out (fun j hj => HNO.out j (by rw [HLN.out] at hj; omega))).elim
          have i9 := I1.out.keep B9.out
          obtain ⟨b, off, rfl, hbl, hcell⟩ := i9.2.2 (by omega)
          have x0 := hcell k hkn
          obtain ⟨q, hq⟩ : ∃ q, L[k]'(by rw [HLN.out]; exact hkn) = q := ⟨_, rfl⟩
          have hq2 : L[k]? = some q := by rw [List.getElem?_eq_getElem (by rw [HLN.out]; exact hkn), hq]
          have hq3 : (ints L).getD k 0 = (q : Int) := by rw [← hq]; simp [ints, List.getD, show k < L.length by rw [HLN.out]; exact hkn]
          rw [hq3] at x0
          have HQ2 := Lib.hid hq2
          have HX0 := Lib.hid x0
          clear hcell i9 hq hq2 hq3 x0
          have r9 := R1.out.keep B9.out
          have lt9 := r9.lt
          have hS : Hid (∀ W : World, Below wr.heap.size wr W → (fun W : World => W.cell? ⟨w.heap.size, 0, none⟩ = some (.slice Ao n co) ∧ W.cell? ⟨w.heap.size, 1, none⟩ = some (.slice Ag n cg) ∧ W.cell? ⟨w.heap.size, 2, none⟩ = some (.slice Ac m cc) ∧ W.cell? ⟨w.heap.size, 3, none⟩ = some (.int .i64 (fr : Int)) ∧ W.cell? ⟨w.heap.size, 4, none⟩ = some (.slice An N.length cn) ∧ W.cell? ⟨w.heap.size, 5, none⟩ = some (.slice Ap N.length cp) ∧ W.cell? ⟨b, off + k, none⟩ = some (.int .i64 (q : Int))) W) := Lib.hid (fun W hW => ⟨(hW.cell (p := ⟨w.heap.size, 0, none⟩) lt9).trans ((r9.cell 0).trans rfl), (hW.cell (p := ⟨w.heap.size, 1, none⟩) lt9).trans ((r9.cell 1).trans rfl), (hW.cell (p := ⟨w.heap.size, 2, none⟩) lt9).trans ((r9.cell 2).trans rfl), (hW.cell (p := ⟨w.heap.size, 3, none⟩) lt9).trans ((r9.cell 3).trans rfl), (hW.cell (p := ⟨w.heap.size, 4, none⟩) lt9).trans ((r9.cell 4).trans rfl), (hW.cell (p := ⟨w.heap.size, 5, none⟩) lt9).trans ((r9.cell 5).trans rfl), (hW.cell (p := ⟨b, off + k, none⟩) hbl).trans HX0.out⟩)
          have HOI : Hid (∀ W, Below wr.heap.size wr W → IntsAt W Av ol (ints out)) := Lib.hid (fun W hW => by
            have := ((HO1.out.keep HB9.out).keep hW).intsV
            rwa [HOL.out] at this)
          have KH : Hid (∀ W, Below wr.heap.size wr W → Calls Try.prog 134 #[.slice Av ol cv, .int .i64 (q : Int)] W fun e w' => e = .returned (.bool (decide ((q : Int) ∈ ints out))) ∧ W = w') := Lib.hid (fun W hW => ref38_has cv (q : Int) (HOI.out W hW))
          have KC : Hid (∀ W, Below wr.heap.size wr W → Calls Try.prog 47 #[.agg #[.slice Ao n co, .slice Ag n cg, .slice Ac m cc, .int .i64 (fr : Int), .slice An N.length cn, .slice Ap N.length cp], .int .i64 (q : Int)] W (GivesInts W (ints (childW N up q)))) := Lib.hid (fun W hW => ref37_Children (q : Int) (by omega) (HH1.out.keep (bel_trans B9.out hW)))
          have HOK := Lib.hid (ok_eq (N := N) (up := up) out q)
          have j0 : (0 : Int) ≤ (k : Int) := by omega
          have j1 : (k : Int) < (n1 : Int) := by omega
          have j2 : IntKind.i64.wrap ((k : Int) + 1) = ((k + 1 : Nat) : Int) := by rw [IntKind.wrap_i64]; omega
          clear r9 lt9
          by_cases h1 : (q : Int) ∈ ints out
          · have HREL : Hid (∀ W, Below wr.heap.size wr W → FindRel wo L (childW N up) out y (.int .i64 (-1)) (.int .i64 ((k + 1 : Nat) : Int)) W) := Lib.hid (fun W hW => ⟨k + 1, by rw [HLN.out]; omega, rfl, bel_trans' HB9.out hW HB9.out.size, .inl ⟨rfl, fun j hj z hz => by
              rcases Nat.lt_or_ge j k with h2 | h2
              · exact HNO.out j h2 z hz
              · obtain rfl : j = k := by omega
                rw [HQ2.out] at hz
                obtain rfl := Option.some.inj hz
                rw [HOK.out, decide_eq_true h1]; rfl⟩⟩)
            rw [decide_eq_true h1] at KH
            clear h1
            go_upto_region 8 with (fail)
            refine wp_region_held_drew (S := (fun W : World => W.cell? ⟨w.heap.size, 0, none⟩ = some (.slice Ao n co) ∧ W.cell? ⟨w.heap.size, 1, none⟩ = some (.slice Ag n cg) ∧ W.cell? ⟨w.heap.size, 2, none⟩ = some (.slice Ac m cc) ∧ W.cell? ⟨w.heap.size, 3, none⟩ = some (.int .i64 (fr : Int)) ∧ W.cell? ⟨w.heap.size, 4, none⟩ = some (.slice An N.length cn) ∧ W.cell? ⟨w.heap.size, 5, none⟩ = some (.slice Ap N.length cp) ∧ W.cell? ⟨b, off + k, none⟩ = some (.int .i64 (q : Int)))) (by kernel_rfl) ?_ (fun hHeld => ?_)
            focus ((try dsimp only); first | exact hq9 | exact hS.out _ (by repeat (first | exact Below.refl _ _ | assumption | refine bel_drew ?_ | refine bel_drewN ?_ _ | refine bel_alloc ?_ _ | refine bel_trans ?_ (by assumption))))
            refine tk_yes 0 (v := ?_) rfl (by kernel_rfl) (by kernel_rfl) (by kernel_rfl) (fun _ _ _ h => h) (by kernel_rfl) (by assumption) ?_ ?_; rotate_left; (focus (intro w hSw; (try dsimp only at hSw); go_simp; (first | done | (with_reducible rfl)))); (try simp only [Act.put, List.setIfInBounds_toArray, List.set_cons_zero, List.set_cons_succ])
            refine tk_yes 1 (v := ?_) rfl (by kernel_rfl) (by kernel_rfl) (by kernel_rfl) (fun _ _ _ h => h) (by kernel_rfl) (by assumption) ?_ ?_; rotate_left; (focus (intro w hSw; (try dsimp only at hSw); go_simp; (first | done | (with_reducible rfl)))); (try simp only [Act.put, List.setIfInBounds_toArray, List.set_cons_zero, List.set_cons_succ])
            refine tk_yes 2 (v := ?_) rfl (by kernel_rfl) (by kernel_rfl) (by kernel_rfl) (fun _ _ _ h => h) (by kernel_rfl) (by assumption) ?_ ?_; rotate_left; (focus (intro w hSw; (try dsimp only at hSw); go_simp; (first | done | (with_reducible rfl)))); (try simp only [Act.put, List.setIfInBounds_toArray, List.set_cons_zero, List.set_cons_succ])
            refine tk_yes 3 (v := ?_) rfl (by kernel_rfl) (by kernel_rfl) (by kernel_rfl) (fun _ _ _ h => h) (by kernel_rfl) (by assumption) ?_ ?_; rotate_left; (focus (intro w hSw; (try dsimp only at hSw); go_simp; (first | done | (with_reducible rfl)))); (try simp only [Act.put, List.setIfInBounds_toArray, List.set_cons_zero, List.set_cons_succ])
            refine tk_yes 4 (v := ?_) rfl (by kernel_rfl) (by kernel_rfl) (by kernel_rfl) (fun _ _ _ h => h) (by kernel_rfl) (by assumption) ?_ ?_; rotate_left; (focus (intro w hSw; (try dsimp only at hSw); go_simp; (first | done | (with_reducible rfl)))); (try simp only [Act.put, List.setIfInBounds_toArray, List.set_cons_zero, List.set_cons_succ])
            refine tk_call 5 rfl (by kernel_rfl) (by kernel_rfl) (fun KW hKW => ?_); go_simp; go_at_call 134; refine (KH.out _ (by repeat (first | exact Below.refl _ _ | assumption | refine bel_drew ?_ | refine bel_drewN ?_ _ | refine bel_alloc ?_ _ | refine bel_trans ?_ (by assumption)))).mono ?_; rintro e u5 ⟨rfl, rfl⟩; have hq9 := hS.out _ (by repeat (first | exact Below.refl _ _ | assumption | refine bel_drew ?_ | refine bel_drewN ?_ _ | refine bel_alloc ?_ _ | refine bel_trans ?_ (by assumption))); refine hKW.out _ _ ?_ (fun hHeld => ?_); (focus ((try dsimp only); first | exact hq9 | exact hS.out _ (by repeat (first | exact Below.refl _ _ | assumption | refine bel_drew ?_ | refine bel_drewN ?_ _ | refine bel_alloc ?_ _ | refine bel_trans ?_ (by assumption))))); clear hKW KW; (try simp only [Act.put, List.setIfInBounds_toArray, List.set_cons_zero, List.set_cons_succ])
            refine tk_yes 6 (v := ?_) rfl (by kernel_rfl) (by kernel_rfl) (by kernel_rfl) (fun _ _ _ h => h) (by kernel_rfl) (by assumption) ?_ ?_; rotate_left; (focus (intro w hSw; (try dsimp only at hSw); go_simp; (first | done | (with_reducible rfl)))); (try simp only [Act.put, List.setIfInBounds_toArray, List.set_cons_zero, List.set_cons_succ])
            refine tk_yes 7 (v := ?_) rfl (by kernel_rfl) (by kernel_rfl) (by kernel_rfl) (fun _ _ _ h => h) (by kernel_rfl) (by assumption) ?_ ?_; rotate_left; (focus (intro w hSw; (try dsimp only at hSw); go_simp; (first | done | (with_reducible rfl)))); (try simp only [Act.put, List.setIfInBounds_toArray, List.set_cons_zero, List.set_cons_succ])
            refine tk_no 8 rfl (by kernel_rfl) (by kernel_rfl) (by kernel_rfl) (fun _ _ _ h => h) (by kernel_rfl) (by assumption) ?_; (try simp only [Act.put, List.setIfInBounds_toArray, List.set_cons_zero, List.set_cons_succ])
            refine tk_no 9 rfl (by kernel_rfl) (by kernel_rfl) (by kernel_rfl) (fun _ _ _ h => h) (by kernel_rfl) (by assumption) ?_; (try simp only [Act.put, List.setIfInBounds_toArray, List.set_cons_zero, List.set_cons_succ])
            refine tk_no 10 rfl (by kernel_rfl) (by kernel_rfl) (by kernel_rfl) (fun _ _ _ h => h) (by kernel_rfl) (by assumption) ?_; (try simp only [Act.put, List.setIfInBounds_toArray, List.set_cons_zero, List.set_cons_succ])
            refine tk_no 11 rfl (by kernel_rfl) (by kernel_rfl) (by kernel_rfl) (fun _ _ _ h => h) (by kernel_rfl) (by assumption) ?_; (try simp only [Act.put, List.setIfInBounds_toArray, List.set_cons_zero, List.set_cons_succ])
            refine tk_no 12 rfl (by kernel_rfl) (by kernel_rfl) (by kernel_rfl) (fun _ _ _ h => h) (by kernel_rfl) (by assumption) ?_; (try simp only [Act.put, List.setIfInBounds_toArray, List.set_cons_zero, List.set_cons_succ])
            refine tk_no 13 rfl (by kernel_rfl) (by kernel_rfl) (by kernel_rfl) (fun _ _ _ h => h) (by kernel_rfl) (by assumption) ?_; (try simp only [Act.put, List.setIfInBounds_toArray, List.set_cons_zero, List.set_cons_succ])
            refine tk_no 14 rfl (by kernel_rfl) (by kernel_rfl) (by kernel_rfl) (fun _ _ _ h => h) (by kernel_rfl) (by assumption) ?_; (try simp only [Act.put, List.setIfInBounds_toArray, List.set_cons_zero, List.set_cons_succ])
            refine tk_no 15 rfl (by kernel_rfl) (by kernel_rfl) (by kernel_rfl) (fun _ _ _ h => h) (by kernel_rfl) (by assumption) ?_; (try simp only [Act.put, List.setIfInBounds_toArray, List.set_cons_zero, List.set_cons_succ])
            refine tk_yes 16 (v := ?_) rfl (by kernel_rfl) (by kernel_rfl) (by kernel_rfl) (fun _ _ _ h => h) (by kernel_rfl) (by assumption) ?_ ?_; rotate_left; (focus (intro w hSw; (try dsimp only at hSw); go_simp; (first | done | (with_reducible rfl)))); (try simp only [Act.put, List.setIfInBounds_toArray, List.set_cons_zero, List.set_cons_succ])
            refine wpAnyH_done (by kernel_rfl) ?_ _
            go_wp2_with fail
            go_roundw
            case rel => exact HREL.out _ (by repeat (first | exact Below.refl _ _ | assumption | refine bel_drew ?_ | refine bel_drewN ?_ _ | refine bel_alloc ?_ _ | refine bel_trans ?_ (by assumption)))
            case measure => simp [intOf] <;> omega
          · rw [decide_eq_false h1] at KH HOK
            by_cases h2 : ∀ z ∈ ints (childW N up q), z ∈ ints out
            · have E2 : Hid (decide (∀ z ∈ ints (childW N up q), z ∈ ints out) = true) := Lib.hid (decide_eq_true h2)
              have hqy : q = y := find_hit HFY.out HNO.out HQ2.out (by rw [HOK.out, E2.out]; rfl)
              have HREL : Hid (∀ W, Below wr.heap.size wr W → FindRel wo L (childW N up) out y (.int .i64 (k : Int)) (.int .i64 ((k + 1 : Nat) : Int)) W) := Lib.hid (fun W hW => ⟨k + 1, by rw [HLN.out]; omega, rfl, bel_trans' HB9.out hW HB9.out.size, .inr ⟨k, rfl, by rw [HLN.out]; omega, by rw [← hqy]; exact HQ2.out⟩⟩)
              clear h1 h2 hqy
              go_upto_region 8 with (fail)
              refine wp_region_held_drew (S := (fun W : World => W.cell? ⟨w.heap.size, 0, none⟩ = some (.slice Ao n co) ∧ W.cell? ⟨w.heap.size, 1, none⟩ = some (.slice Ag n cg) ∧ W.cell? ⟨w.heap.size, 2, none⟩ = some (.slice Ac m cc) ∧ W.cell? ⟨w.heap.size, 3, none⟩ = some (.int .i64 (fr : Int)) ∧ W.cell? ⟨w.heap.size, 4, none⟩ = some (.slice An N.length cn) ∧ W.cell? ⟨w.heap.size, 5, none⟩ = some (.slice Ap N.length cp) ∧ W.cell? ⟨b, off + k, none⟩ = some (.int .i64 (q : Int)))) (by kernel_rfl) ?_ (fun hHeld => ?_)
              focus ((try dsimp only); first | exact hq9 | exact hS.out _ (by repeat (first | exact Below.refl _ _ | assumption | refine bel_drew ?_ | refine bel_drewN ?_ _ | refine bel_alloc ?_ _ | refine bel_trans ?_ (by assumption))))
              refine tk_yes 0 (v := ?_) rfl (by kernel_rfl) (by kernel_rfl) (by kernel_rfl) (fun _ _ _ h => h) (by kernel_rfl) (by assumption) ?_ ?_; rotate_left; (focus (intro w hSw; (try dsimp only at hSw); go_simp; (first | done | (with_reducible rfl)))); (try simp only [Act.put, List.setIfInBounds_toArray, List.set_cons_zero, List.set_cons_succ])
              refine tk_yes 1 (v := ?_) rfl (by kernel_rfl) (by kernel_rfl) (by kernel_rfl) (fun _ _ _ h => h) (by kernel_rfl) (by assumption) ?_ ?_; rotate_left; (focus (intro w hSw; (try dsimp only at hSw); go_simp; (first | done | (with_reducible rfl)))); (try simp only [Act.put, List.setIfInBounds_toArray, List.set_cons_zero, List.set_cons_succ])
              refine tk_yes 2 (v := ?_) rfl (by kernel_rfl) (by kernel_rfl) (by kernel_rfl) (fun _ _ _ h => h) (by kernel_rfl) (by assumption) ?_ ?_; rotate_left; (focus (intro w hSw; (try dsimp only at hSw); go_simp; (first | done | (with_reducible rfl)))); (try simp only [Act.put, List.setIfInBounds_toArray, List.set_cons_zero, List.set_cons_succ])
              refine tk_yes 3 (v := ?_) rfl (by kernel_rfl) (by kernel_rfl) (by kernel_rfl) (fun _ _ _ h => h) (by kernel_rfl) (by assumption) ?_ ?_; rotate_left; (focus (intro w hSw; (try dsimp only at hSw); go_simp; (first | done | (with_reducible rfl)))); (try simp only [Act.put, List.setIfInBounds_toArray, List.set_cons_zero, List.set_cons_succ])
              refine tk_yes 4 (v := ?_) rfl (by kernel_rfl) (by kernel_rfl) (by kernel_rfl) (fun _ _ _ h => h) (by kernel_rfl) (by assumption) ?_ ?_; rotate_left; (focus (intro w hSw; (try dsimp only at hSw); go_simp; (first | done | (with_reducible rfl)))); (try simp only [Act.put, List.setIfInBounds_toArray, List.set_cons_zero, List.set_cons_succ])
              refine tk_call 5 rfl (by kernel_rfl) (by kernel_rfl) (fun KW hKW => ?_); go_simp; go_at_call 134; refine (KH.out _ (by repeat (first | exact Below.refl _ _ | assumption | refine bel_drew ?_ | refine bel_drewN ?_ _ | refine bel_alloc ?_ _ | refine bel_trans ?_ (by assumption)))).mono ?_; rintro e u5 ⟨rfl, rfl⟩; have hq9 := hS.out _ (by repeat (first | exact Below.refl _ _ | assumption | refine bel_drew ?_ | refine bel_drewN ?_ _ | refine bel_alloc ?_ _ | refine bel_trans ?_ (by assumption))); refine hKW.out _ _ ?_ (fun hHeld => ?_); (focus ((try dsimp only); first | exact hq9 | exact hS.out _ (by repeat (first | exact Below.refl _ _ | assumption | refine bel_drew ?_ | refine bel_drewN ?_ _ | refine bel_alloc ?_ _ | refine bel_trans ?_ (by assumption))))); clear hKW KW; (try simp only [Act.put, List.setIfInBounds_toArray, List.set_cons_zero, List.set_cons_succ])
              refine tk_yes 6 (v := ?_) rfl (by kernel_rfl) (by kernel_rfl) (by kernel_rfl) (fun _ _ _ h => h) (by kernel_rfl) (by assumption) ?_ ?_; rotate_left; (focus (intro w hSw; (try dsimp only at hSw); go_simp; (first | done | (with_reducible rfl)))); (try simp only [Act.put, List.setIfInBounds_toArray, List.set_cons_zero, List.set_cons_succ])
              refine tk_yes 7 (v := ?_) rfl (by kernel_rfl) (by kernel_rfl) (by kernel_rfl) (fun _ _ _ h => h) (by kernel_rfl) (by assumption) ?_ ?_; rotate_left; (focus (intro w hSw; (try dsimp only at hSw); go_simp; (first | done | (with_reducible rfl)))); (try simp only [Act.put, List.setIfInBounds_toArray, List.set_cons_zero, List.set_cons_succ])
              refine tk_yes 8 (v := ?_) rfl (by kernel_rfl) (by kernel_rfl) (by kernel_rfl) (fun _ _ _ h => h) (by kernel_rfl) (by assumption) ?_ ?_; rotate_left; (focus (intro w hSw; (try dsimp only at hSw); go_simp; (first | done | (with_reducible rfl)))); (try simp only [Act.put, List.setIfInBounds_toArray, List.set_cons_zero, List.set_cons_succ])
              refine tk_yes 9 (v := ?_) rfl (by kernel_rfl) (by kernel_rfl) (by kernel_rfl) (fun _ _ _ h => h) (by kernel_rfl) (by assumption) ?_ ?_; rotate_left; (focus (intro w hSw; (try dsimp only at hSw); go_simp; (first | done | (with_reducible rfl)))); (try simp only [Act.put, List.setIfInBounds_toArray, List.set_cons_zero, List.set_cons_succ])
              refine tk_yes 10 (v := ?_) rfl (by kernel_rfl) (by kernel_rfl) (by kernel_rfl) (fun _ _ _ h => h) (by kernel_rfl) (by assumption) ?_ ?_; rotate_left; (focus (intro w hSw; (try dsimp only at hSw); go_simp; (first | done | (with_reducible rfl)))); (try simp only [Act.put, List.setIfInBounds_toArray, List.set_cons_zero, List.set_cons_succ])
              refine tk_yes 11 (v := ?_) rfl (by kernel_rfl) (by kernel_rfl) (by kernel_rfl) (fun _ _ _ h => h) (by kernel_rfl) (by assumption) ?_ ?_; rotate_left; (focus (intro w hSw; (try dsimp only at hSw); go_simp; (first | done | (with_reducible rfl)))); (try simp only [Act.put, List.setIfInBounds_toArray, List.set_cons_zero, List.set_cons_succ])
              refine tk_yes 12 (v := ?_) rfl (by kernel_rfl) (by kernel_rfl) (by kernel_rfl) (fun _ _ _ h => h) (by kernel_rfl) (by assumption) ?_ ?_; rotate_left; (focus (intro w hSw; (try dsimp only at hSw); go_simp; (first | done | (with_reducible rfl)))); (try simp only [Act.put, List.setIfInBounds_toArray, List.set_cons_zero, List.set_cons_succ])
              refine tk_yes 13 (v := ?_) rfl (by kernel_rfl) (by kernel_rfl) (by kernel_rfl) (fun _ _ _ h => h) (by kernel_rfl) (by assumption) ?_ ?_; rotate_left; (focus (intro w hSw; (try dsimp only at hSw); go_simp; (first | done | (with_reducible rfl)))); (try simp only [Act.put, List.setIfInBounds_toArray, List.set_cons_zero, List.set_cons_succ])
              refine tk_call 14 rfl (by kernel_rfl) (by kernel_rfl) (fun KW hKW => ?_); go_simp; go_at_call 47; refine (KC.out _ (by repeat (first | exact Below.refl _ _ | assumption | refine bel_drew ?_ | refine bel_drewN ?_ _ | refine bel_alloc ?_ _ | refine bel_trans ?_ (by assumption)))).mono ?_; rintro e u14 ⟨A3, n3, c3, rfl, i3, hb3⟩; have I3 := Lib.hid i3.1; clear i3; have hq9 := hS.out _ (by repeat (first | exact Below.refl _ _ | assumption | refine bel_drew ?_ | refine bel_drewN ?_ _ | refine bel_alloc ?_ _ | refine bel_trans ?_ (by assumption))); refine hKW.out _ _ ?_ (fun hHeld => ?_); (focus ((try dsimp only); first | exact hq9 | exact hS.out _ (by repeat (first | exact Below.refl _ _ | assumption | refine bel_drew ?_ | refine bel_drewN ?_ _ | refine bel_alloc ?_ _ | refine bel_trans ?_ (by assumption))))); clear hKW KW; (try simp only [Act.put, List.setIfInBounds_toArray, List.set_cons_zero, List.set_cons_succ])
              refine tk_call 15 rfl (by kernel_rfl) (by kernel_rfl) (fun KW hKW => ?_); go_simp; go_at_call 135; refine (ref38_all cv c3 (HOI.out _ (by repeat (first | exact Below.refl _ _ | assumption | refine bel_drew ?_ | refine bel_drewN ?_ _ | refine bel_alloc ?_ _ | refine bel_trans ?_ (by assumption)))) I3.out).mono ?_; rw [E2.out]; rintro e u15 ⟨rfl, rfl⟩; have hq9 := hS.out _ (by repeat (first | exact Below.refl _ _ | assumption | refine bel_drew ?_ | refine bel_drewN ?_ _ | refine bel_alloc ?_ _ | refine bel_trans ?_ (by assumption))); refine hKW.out _ _ ?_ (fun hHeld => ?_); (focus ((try dsimp only); first | exact hq9 | exact hS.out _ (by repeat (first | exact Below.refl _ _ | assumption | refine bel_drew ?_ | refine bel_drewN ?_ _ | refine bel_alloc ?_ _ | refine bel_trans ?_ (by assumption))))); clear hKW KW; (try simp only [Act.put, List.setIfInBounds_toArray, List.set_cons_zero, List.set_cons_succ])
              refine tk_yes 16 (v := ?_) rfl (by kernel_rfl) (by kernel_rfl) (by kernel_rfl) (fun _ _ _ h => h) (by kernel_rfl) (by assumption) ?_ ?_; rotate_left; (focus (intro w hSw; (try dsimp only at hSw); go_simp; (first | done | (with_reducible rfl)))); (try simp only [Act.put, List.setIfInBounds_toArray, List.set_cons_zero, List.set_cons_succ])
              refine wpAnyH_done (by kernel_rfl) ?_ _
              go_wp2_with fail
              go_roundw
              case rel => exact HREL.out _ (by repeat (first | exact Below.refl _ _ | assumption | refine bel_drew ?_ | refine bel_drewN ?_ _ | refine bel_alloc ?_ _ | refine bel_trans ?_ (by assumption)))
              case measure => simp [intOf] <;> omega
            · have E2 : Hid (decide (∀ z ∈ ints (childW N up q), z ∈ ints out) = false) := Lib.hid (decide_eq_false h2)
              have HREL : Hid (∀ W, Below wr.heap.size wr W → FindRel wo L (childW N up) out y (.int .i64 (-1)) (.int .i64 ((k + 1 : Nat) : Int)) W) := Lib.hid (fun W hW => ⟨k + 1, by rw [HLN.out]; omega, rfl, bel_trans' HB9.out hW HB9.out.size, .inl ⟨rfl, fun j hj z hz => by
                rcases Nat.lt_or_ge j k with h2 | h2
                · exact HNO.out j h2 z hz
                · obtain rfl : j = k := by omega
                  rw [HQ2.out] at hz
                  obtain rfl := Option.some.inj hz
                  rw [HOK.out, E2.out]; rfl⟩⟩)
              clear h1 h2
              go_upto_region 8 with (fail)
              refine wp_region_held_drew (S := (fun W : World => W.cell? ⟨w.heap.size, 0, none⟩ = some (.slice Ao n co) ∧ W.cell? ⟨w.heap.size, 1, none⟩ = some (.slice Ag n cg) ∧ W.cell? ⟨w.heap.size, 2, none⟩ = some (.slice Ac m cc) ∧ W.cell? ⟨w.heap.size, 3, none⟩ = some (.int .i64 (fr : Int)) ∧ W.cell? ⟨w.heap.size, 4, none⟩ = some (.slice An N.length cn) ∧ W.cell? ⟨w.heap.size, 5, none⟩ = some (.slice Ap N.length cp) ∧ W.cell? ⟨b, off + k, none⟩ = some (.int .i64 (q : Int)))) (by kernel_rfl) ?_ (fun hHeld => ?_)
              focus ((try dsimp only); first | exact hq9 | exact hS.out _ (by repeat (first | exact Below.refl _ _ | assumption | refine bel_drew ?_ | refine bel_drewN ?_ _ | refine bel_alloc ?_ _ | refine bel_trans ?_ (by assumption))))
              refine tk_yes 0 (v := ?_) rfl (by kernel_rfl) (by kernel_rfl) (by kernel_rfl) (fun _ _ _ h => h) (by kernel_rfl) (by assumption) ?_ ?_; rotate_left; (focus (intro w hSw; (try dsimp only at hSw); go_simp; (first | done | (with_reducible rfl)))); (try simp only [Act.put, List.setIfInBounds_toArray, List.set_cons_zero, List.set_cons_succ])
              refine tk_yes 1 (v := ?_) rfl (by kernel_rfl) (by kernel_rfl) (by kernel_rfl) (fun _ _ _ h => h) (by kernel_rfl) (by assumption) ?_ ?_; rotate_left; (focus (intro w hSw; (try dsimp only at hSw); go_simp; (first | done | (with_reducible rfl)))); (try simp only [Act.put, List.setIfInBounds_toArray, List.set_cons_zero, List.set_cons_succ])
              refine tk_yes 2 (v := ?_) rfl (by kernel_rfl) (by kernel_rfl) (by kernel_rfl) (fun _ _ _ h => h) (by kernel_rfl) (by assumption) ?_ ?_; rotate_left; (focus (intro w hSw; (try dsimp only at hSw); go_simp; (first | done | (with_reducible rfl)))); (try simp only [Act.put, List.setIfInBounds_toArray, List.set_cons_zero, List.set_cons_succ])
              refine tk_yes 3 (v := ?_) rfl (by kernel_rfl) (by kernel_rfl) (by kernel_rfl) (fun _ _ _ h => h) (by kernel_rfl) (by assumption) ?_ ?_; rotate_left; (focus (intro w hSw; (try dsimp only at hSw); go_simp; (first | done | (with_reducible rfl)))); (try simp only [Act.put, List.setIfInBounds_toArray, List.set_cons_zero, List.set_cons_succ])
              refine tk_yes 4 (v := ?_) rfl (by kernel_rfl) (by kernel_rfl) (by kernel_rfl) (fun _ _ _ h => h) (by kernel_rfl) (by assumption) ?_ ?_; rotate_left; (focus (intro w hSw; (try dsimp only at hSw); go_simp; (first | done | (with_reducible rfl)))); (try simp only [Act.put, List.setIfInBounds_toArray, List.set_cons_zero, List.set_cons_succ])
              refine tk_call 5 rfl (by kernel_rfl) (by kernel_rfl) (fun KW hKW => ?_); go_simp; go_at_call 134; refine (KH.out _ (by repeat (first | exact Below.refl _ _ | assumption | refine bel_drew ?_ | refine bel_drewN ?_ _ | refine bel_alloc ?_ _ | refine bel_trans ?_ (by assumption)))).mono ?_; rintro e u5 ⟨rfl, rfl⟩; have hq9 := hS.out _ (by repeat (first | exact Below.refl _ _ | assumption | refine bel_drew ?_ | refine bel_drewN ?_ _ | refine bel_alloc ?_ _ | refine bel_trans ?_ (by assumption))); refine hKW.out _ _ ?_ (fun hHeld => ?_); (focus ((try dsimp only); first | exact hq9 | exact hS.out _ (by repeat (first | exact Below.refl _ _ | assumption | refine bel_drew ?_ | refine bel_drewN ?_ _ | refine bel_alloc ?_ _ | refine bel_trans ?_ (by assumption))))); clear hKW KW; (try simp only [Act.put, List.setIfInBounds_toArray, List.set_cons_zero, List.set_cons_succ])
              refine tk_yes 6 (v := ?_) rfl (by kernel_rfl) (by kernel_rfl) (by kernel_rfl) (fun _ _ _ h => h) (by kernel_rfl) (by assumption) ?_ ?_; rotate_left; (focus (intro w hSw; (try dsimp only at hSw); go_simp; (first | done | (with_reducible rfl)))); (try simp only [Act.put, List.setIfInBounds_toArray, List.set_cons_zero, List.set_cons_succ])
              refine tk_yes 7 (v := ?_) rfl (by kernel_rfl) (by kernel_rfl) (by kernel_rfl) (fun _ _ _ h => h) (by kernel_rfl) (by assumption) ?_ ?_; rotate_left; (focus (intro w hSw; (try dsimp only at hSw); go_simp; (first | done | (with_reducible rfl)))); (try simp only [Act.put, List.setIfInBounds_toArray, List.set_cons_zero, List.set_cons_succ])
              refine tk_yes 8 (v := ?_) rfl (by kernel_rfl) (by kernel_rfl) (by kernel_rfl) (fun _ _ _ h => h) (by kernel_rfl) (by assumption) ?_ ?_; rotate_left; (focus (intro w hSw; (try dsimp only at hSw); go_simp; (first | done | (with_reducible rfl)))); (try simp only [Act.put, List.setIfInBounds_toArray, List.set_cons_zero, List.set_cons_succ])
              refine tk_yes 9 (v := ?_) rfl (by kernel_rfl) (by kernel_rfl) (by kernel_rfl) (fun _ _ _ h => h) (by kernel_rfl) (by assumption) ?_ ?_; rotate_left; (focus (intro w hSw; (try dsimp only at hSw); go_simp; (first | done | (with_reducible rfl)))); (try simp only [Act.put, List.setIfInBounds_toArray, List.set_cons_zero, List.set_cons_succ])
              refine tk_yes 10 (v := ?_) rfl (by kernel_rfl) (by kernel_rfl) (by kernel_rfl) (fun _ _ _ h => h) (by kernel_rfl) (by assumption) ?_ ?_; rotate_left; (focus (intro w hSw; (try dsimp only at hSw); go_simp; (first | done | (with_reducible rfl)))); (try simp only [Act.put, List.setIfInBounds_toArray, List.set_cons_zero, List.set_cons_succ])
              refine tk_yes 11 (v := ?_) rfl (by kernel_rfl) (by kernel_rfl) (by kernel_rfl) (fun _ _ _ h => h) (by kernel_rfl) (by assumption) ?_ ?_; rotate_left; (focus (intro w hSw; (try dsimp only at hSw); go_simp; (first | done | (with_reducible rfl)))); (try simp only [Act.put, List.setIfInBounds_toArray, List.set_cons_zero, List.set_cons_succ])
              refine tk_yes 12 (v := ?_) rfl (by kernel_rfl) (by kernel_rfl) (by kernel_rfl) (fun _ _ _ h => h) (by kernel_rfl) (by assumption) ?_ ?_; rotate_left; (focus (intro w hSw; (try dsimp only at hSw); go_simp; (first | done | (with_reducible rfl)))); (try simp only [Act.put, List.setIfInBounds_toArray, List.set_cons_zero, List.set_cons_succ])
              refine tk_yes 13 (v := ?_) rfl (by kernel_rfl) (by kernel_rfl) (by kernel_rfl) (fun _ _ _ h => h) (by kernel_rfl) (by assumption) ?_ ?_; rotate_left; (focus (intro w hSw; (try dsimp only at hSw); go_simp; (first | done | (with_reducible rfl)))); (try simp only [Act.put, List.setIfInBounds_toArray, List.set_cons_zero, List.set_cons_succ])
              refine tk_call 14 rfl (by kernel_rfl) (by kernel_rfl) (fun KW hKW => ?_); go_simp; go_at_call 47; refine (KC.out _ (by repeat (first | exact Below.refl _ _ | assumption | refine bel_drew ?_ | refine bel_drewN ?_ _ | refine bel_alloc ?_ _ | refine bel_trans ?_ (by assumption)))).mono ?_; rintro e u14 ⟨A3, n3, c3, rfl, i3, hb3⟩; have I3 := Lib.hid i3.1; clear i3; have hq9 := hS.out _ (by repeat (first | exact Below.refl _ _ | assumption | refine bel_drew ?_ | refine bel_drewN ?_ _ | refine bel_alloc ?_ _ | refine bel_trans ?_ (by assumption))); refine hKW.out _ _ ?_ (fun hHeld => ?_); (focus ((try dsimp only); first | exact hq9 | exact hS.out _ (by repeat (first | exact Below.refl _ _ | assumption | refine bel_drew ?_ | refine bel_drewN ?_ _ | refine bel_alloc ?_ _ | refine bel_trans ?_ (by assumption))))); clear hKW KW; (try simp only [Act.put, List.setIfInBounds_toArray, List.set_cons_zero, List.set_cons_succ])
              refine tk_call 15 rfl (by kernel_rfl) (by kernel_rfl) (fun KW hKW => ?_); go_simp; go_at_call 135; refine (ref38_all cv c3 (HOI.out _ (by repeat (first | exact Below.refl _ _ | assumption | refine bel_drew ?_ | refine bel_drewN ?_ _ | refine bel_alloc ?_ _ | refine bel_trans ?_ (by assumption)))) I3.out).mono ?_; rw [E2.out]; rintro e u15 ⟨rfl, rfl⟩; have hq9 := hS.out _ (by repeat (first | exact Below.refl _ _ | assumption | refine bel_drew ?_ | refine bel_drewN ?_ _ | refine bel_alloc ?_ _ | refine bel_trans ?_ (by assumption))); refine hKW.out _ _ ?_ (fun hHeld => ?_); (focus ((try dsimp only); first | exact hq9 | exact hS.out _ (by repeat (first | exact Below.refl _ _ | assumption | refine bel_drew ?_ | refine bel_drewN ?_ _ | refine bel_alloc ?_ _ | refine bel_trans ?_ (by assumption))))); clear hKW KW; (try simp only [Act.put, List.setIfInBounds_toArray, List.set_cons_zero, List.set_cons_succ])
              refine tk_yes 16 (v := ?_) rfl (by kernel_rfl) (by kernel_rfl) (by kernel_rfl) (fun _ _ _ h => h) (by kernel_rfl) (by assumption) ?_ ?_; rotate_left; (focus (intro w hSw; (try dsimp only at hSw); go_simp; (first | done | (with_reducible rfl)))); (try simp only [Act.put, List.setIfInBounds_toArray, List.set_cons_zero, List.set_cons_succ])
              refine wpAnyH_done (by kernel_rfl) ?_ _
              go_wp2_with fail
              go_roundw
              case rel => exact HREL.out _ (by repeat (first | exact Below.refl _ _ | assumption | refine bel_drew ?_ | refine bel_drewN ?_ _ | refine bel_alloc ?_ _ | refine bel_trans ?_ (by assumption)))
              case measure => simp [intOf] <;> omega
        · have g5 : ¬ (j : Int) < 0 := by omega
          have g6 : (0 : Int) ≤ (j : Int) := by omega
          have i9 := I1.out.keep B9.out
          rw [HLN.out] at hj
          obtain ⟨b, off, rfl, hbl, hcell⟩ := i9.2.2 (by omega)
          have x0 := hcell j hj
          have hq3 : (ints L).getD j 0 = (y : Int) := by
            have : L[j]'(by rw [HLN.out]; exact hj) = y := by rw [List.getElem?_eq_getElem (by rw [HLN.out]; exact hj)] at hy; exact Option.some.inj hy
            rw [← this]; simp [ints, List.getD, show j < L.length by rw [HLN.out]; exact hj]
          rw [hq3] at x0
          have g7 : (j : Int) < (n1 : Int) := by omega
          have HO9 := Lib.hid (HO1.out.keep HB9.out)
          have HT2 : Hid (ints out ++ [(y : Int)] = ints (out ++ [y])) := Lib.hid (by rw [ints_app]; rfl)
          clear hcell i9 hq3 hy hj
          by_cases hkn : (k : Int) < (n1 : Int)
          · skip
            go_wp2_with (at_builtin; refine app_listI rfl (.tmp 45) (.tmp 50) rfl w1.heap.size _ (ints out) rfl (HO9.out.keep (bel_alloc (Below.refl _ _) _)) (some ⟨wr.heap.size, 0, none⟩) 1 1 [(y : Int)] rfl (src_oneI (by simp [go_sem])) (by rw [HOL.out]; omega) (by have := B9.out.size; simp; omega) ?_; intro V9 W8 ho9 hb9; rw [HT2.out] at ho9; have HO10 := Lib.hid ho9; have B10 := Lib.hid ((bel_alloc B9.out _).trans hb9); clear ho9 hb9)
            go_roundw
            case rel => exact ⟨out ++ [y], bb, HO10.out, HE2.out, B10.out⟩
            case measure =>
              obtain ⟨A9, c9, h9⟩ := own_shape HO10.out
              have e9 : vlen V9 = ol + 1 := by rw [h9]; show (ints (out ++ [y])).length = _; rw [← HT2.out, List.length_append, HOL.out]; rfl
              have := HOLT.out
              have := HAL.out
              show all.length - vlen V9 < all.length - ol
              omega
          · skip
            go_wp2_with (at_builtin; refine app_listI rfl (.tmp 45) (.tmp 50) rfl w1.heap.size _ (ints out) rfl (HO9.out.keep (bel_alloc (Below.refl _ _) _)) (some ⟨wr.heap.size, 0, none⟩) 1 1 [(y : Int)] rfl (src_oneI (by simp [go_sem])) (by rw [HOL.out]; omega) (by have := B9.out.size; simp; omega) ?_; intro V9 W8 ho9 hb9; rw [HT2.out] at ho9; have HO10 := Lib.hid ho9; have B10 := Lib.hid ((bel_alloc B9.out _).trans hb9); clear ho9 hb9)
            go_roundw
            case rel => exact ⟨out ++ [y], bb, HO10.out, HE2.out, B10.out⟩
            case measure =>
              obtain ⟨A9, c9, h9⟩ := own_shape HO10.out
              have e9 : vlen V9 = ol + 1 := by rw [h9]; show (ints (out ++ [y])).length = _; rw [← HT2.out, List.length_append, HOL.out]; rfl
              have := HOLT.out
              have := HAL.out
              show all.length - vlen V9 < all.length - ol
              omega
end Go.Proofs.Ytdhcmnbajkpjiaa
/-
  The example of the chapter of walks.
-/
namespace Go.Proofs.Ytdhcmnbajkpjiaa
open Go.RowKit
open Go.Maps
set_option linter.unusedVariables false
set_option linter.unusedSimpArgs false
attribute [local go_sem] drewN_alloc drewN_setCell

theorem ints_lit (w : World) (t : TypeId) (xs : List Int) (hx : xs.length ≤ 100000) : IntsAt (w.alloc (.cells (cellsI xs).toArray t)) (some ⟨w.heap.size, 0, none⟩) xs.length xs :=
  ⟨rfl, by omega, fun _ => ⟨w.heap.size, 0, rfl, by simp, fun i hi => by
    rw [Nat.zero_add]
    have e : (cellsI xs)[i]? = some (.int .i64 (xs.getD i 0)) := by simp [cellsI, List.getD, hi]
    have e2 := World.alloc_heap_new w (.cells (cellsI xs).toArray t)
    simp only [World.cell?, e2]
    simpa using e⟩⟩
/-- The example's forest. -/
theorem ex38 : ∃ S : FSt, (FSt.child (FSt.child (FSt.child (FSt.add (FSt.new 5) 5 5 (-1)) 5 0) 5 0) 5 1) = S ∧ NRel 5 S [0, 1, 2, 3] ∧ Ord [0, 1, 2, 3] S.up ∧ preW [0, 1, 2, 3] S.up 0 = [0, 1, 3, 2] ∧ postW [0, 1, 2, 3] S.up 0 = [3, 1, 2, 0] ∧ depthV [0, 1, 2, 3] S.up 3 = 2 ∧ (preW [0, 1, 2, 3] S.up 1).length = 2 ∧ topV [0, 1, 2, 3] S.up 3 = 0 ∧
    decide ((1 : Int) ∈ ints (upsV [0, 1, 2, 3] S.up 3)) = true ∧ decide ((1 : Int) ∈ ints (upsV [0, 1, 2, 3] S.up 2)) = false := by
  refine ⟨_, rfl, ⟨by decide, fun x => ?_, by decide +kernel, by decide +kernel⟩, ⟨by decide, fun x hx => ?_, by decide +kernel, by decide +kernel⟩, by decide +kernel, by decide +kernel, by decide +kernel, by decide +kernel, by decide +kernel, by decide +kernel, by decide +kernel⟩
  · have e : FSt.O (FSt.child (FSt.child (FSt.child (FSt.add (FSt.new 5) 5 5 (-1)) 5 0) 5 0) 5 1) = [3, 2, 1, 0] := by decide +kernel
    rw [e]; simp; omega
  · simp only [List.mem_cons, List.not_mem_nil, or_false] at hx
    rcases hx with rfl | rfl | rfl | rfl
    · exact .inl (by decide +kernel)
    · exact .inr ⟨0, by decide, by decide +kernel⟩
    · exact .inr ⟨0, by decide, by decide +kernel⟩
    · exact .inr ⟨1, by decide, by decide +kernel⟩
set_option maxHeartbeats 4000000 in
theorem law38_works (w : World) : Calls Try.prog 70 #[] w fun e w' => e = .returned (.bool true) ∧ Below w.heap.size w w' := by
  have A1 := fun (W : World) (own : Nat → Prop) (Fb : Nat) (h : ForestOver w W own Fb 5 (FSt.new 5)) => overf_Root h
  rw [show FSt.told (FSt.new 5) 5 = .tuple #[.int .i64 0, .int .i64 0, .bool true] by rfl] at A1
  have A2 := fun (W : World) (own : Nat → Prop) (Fb : Nat) (h : ForestOver w W own Fb 5 (FSt.add (FSt.new 5) 5 5 (-1))) => overf_Child 0 h
  rw [show FSt.toldC (FSt.add (FSt.new 5) 5 5 (-1)) 5 0 = .tuple #[.int .i64 1, .int .i64 0, .bool true] by rfl] at A2
  have A3 := fun (W : World) (own : Nat → Prop) (Fb : Nat) (h : ForestOver w W own Fb 5 (FSt.child (FSt.add (FSt.new 5) 5 5 (-1)) 5 0)) => overf_Child 0 h
  rw [show FSt.toldC (FSt.child (FSt.add (FSt.new 5) 5 5 (-1)) 5 0) 5 0 = .tuple #[.int .i64 2, .int .i64 0, .bool true] by rfl] at A3
  have A4 := fun (W : World) (own : Nat → Prop) (Fb : Nat) (h : ForestOver w W own Fb 5 (FSt.child (FSt.child (FSt.add (FSt.new 5) 5 5 (-1)) 5 0) 5 0)) => overf_Child 1 h
  rw [show FSt.toldC (FSt.child (FSt.child (FSt.add (FSt.new 5) 5 5 (-1)) 5 0) 5 0) 5 1 = .tuple #[.int .i64 3, .int .i64 0, .bool true] by rfl] at A4
  obtain ⟨S, hS, rel, hO, v1, v2, v3, v4, v5, v6, v7⟩ := ex38
  rw [hS] at A4
  have B1 := fun (W : World) (own : Nat → Prop) (Fb : Nat) (h : ForestOver w W own Fb 5 S) => walk_Pre 0 hO rel h
  have B2 := fun (W : World) (own : Nat → Prop) (Fb : Nat) (h : ForestOver w W own Fb 5 S) => walk_Post 0 hO rel h
  have B3 := fun (W : World) (own : Nat → Prop) (Fb : Nat) (h : ForestOver w W own Fb 5 S) => walk_Depth 3 hO rel h
  have B4 := fun (W : World) (own : Nat → Prop) (Fb : Nat) (h : ForestOver w W own Fb 5 S) => walk_Size 1 hO rel h
  have B5 := fun (W : World) (own : Nat → Prop) (Fb : Nat) (h : ForestOver w W own Fb 5 S) => walk_Top 3 hO rel h
  have B6 := fun (W : World) (own : Nat → Prop) (Fb : Nat) (h : ForestOver w W own Fb 5 S) => walk_Within 3 1 hO rel h
  have B7 := fun (W : World) (own : Nat → Prop) (Fb : Nat) (h : ForestOver w W own Fb 5 S) => walk_Within 2 1 hO rel h
  rw [v1] at B1
  rw [v2] at B2
  rw [v3] at B3
  rw [v4] at B4
  rw [v5] at B5
  rw [v6] at B6
  rw [v7] at B7
  have N := Lib.hid (overf_New 5 w (by omega))
  replace A1 := Lib.hid A1
  replace A2 := Lib.hid A2
  replace A3 := Lib.hid A3
  replace A4 := Lib.hid A4
  replace B1 := Lib.hid B1
  replace B2 := Lib.hid B2
  replace B3 := Lib.hid B3
  replace B4 := Lib.hid B4
  replace B5 := Lib.hid B5
  replace B6 := Lib.hid B6
  replace B7 := Lib.hid B7
  clear v1 v2 v3 v4 v5 v6 v7 hS rel hO
  go_enter Try.func70, Try.ntmps70
  go_wp2_with fail
  refine N.out.mono ?_
  rintro e w1 ⟨Fb, o1, rfl, h1⟩
  replace h1 := Lib.hid h1
  go_wp2_with fail
  refine (A1.out _ _ _ h1.out).mono ?_
  rintro e w2 ⟨rfl, o2, h2, -⟩
  replace h2 := Lib.hid h2
  go_wp2_with fail
  refine (A2.out _ _ _ h2.out).mono ?_
  rintro e w3 ⟨rfl, o3, h3, -⟩
  replace h3 := Lib.hid h3
  go_wp2_with fail
  refine (A3.out _ _ _ h3.out).mono ?_
  rintro e w4 ⟨rfl, o4, h4, -⟩
  replace h4 := Lib.hid h4
  go_wp2_with fail
  refine (A4.out _ _ _ h4.out).mono ?_
  rintro e w5 ⟨rfl, o5, h5, -⟩
  replace h5 := Lib.hid h5
  go_wp2_with fail
  refine (B1.out _ _ _ h5.out).mono ?_
  rintro e v7 ⟨A7, m7, c7, rfl, i7, b7⟩
  have g7 := Lib.hid (h5.out.keep b7)
  have I7 := Lib.hid i7.1
  clear b7 i7
  go_wp2_with fail
  refine (base_SameInts c7 4 (I7.out.keep (bel_alloc (Below.refl _ _) (.cells #[.int .i64 0, .int .i64 1, .int .i64 3, .int .i64 2] 3))) (ints_lit v7 3 [0, 1, 3, 2] (by simp))).mono ?_
  rintro e u7 ⟨rfl, b7⟩
  have h6 := Lib.hid (g7.out.keep (bel_trans (bel_alloc (Below.refl _ _) (.cells #[.int .i64 0, .int .i64 1, .int .i64 3, .int .i64 2] 3)) b7))
  clear b7
  go_wp2_with fail
  refine (B2.out _ _ _ h6.out).mono ?_
  rintro e v8 ⟨A8, m8, c8, rfl, i8, b8⟩
  have g8 := Lib.hid (h6.out.keep b8)
  have I8 := Lib.hid i8.1
  clear b8 i8
  go_wp2_with fail
  refine (base_SameInts c8 4 (I8.out.keep (bel_alloc (Below.refl _ _) (.cells #[.int .i64 3, .int .i64 1, .int .i64 2, .int .i64 0] 3))) (ints_lit v8 3 [3, 1, 2, 0] (by simp))).mono ?_
  rintro e u8 ⟨rfl, b8⟩
  have h7 := Lib.hid (g8.out.keep (bel_trans (bel_alloc (Below.refl _ _) (.cells #[.int .i64 3, .int .i64 1, .int .i64 2, .int .i64 0] 3)) b8))
  clear b8
  go_wp2_with fail
  refine (B3.out _ _ _ h7.out).mono ?_
  rintro e x0 ⟨rfl, b⟩
  have h8 := Lib.hid (h7.out.keep b)
  clear b
  go_wp2_with fail
  refine (B4.out _ _ _ h8.out).mono ?_
  rintro e x1 ⟨rfl, b⟩
  have h9 := Lib.hid (h8.out.keep b)
  clear b
  go_wp2_with fail
  refine (B5.out _ _ _ h9.out).mono ?_
  rintro e x2 ⟨rfl, b⟩
  have h10 := Lib.hid (h9.out.keep b)
  clear b
  go_wp2_with fail
  refine (B6.out _ _ _ h10.out).mono ?_
  rintro e x3 ⟨rfl, b⟩
  have h11 := Lib.hid (h10.out.keep b)
  clear b
  go_wp2_with fail
  refine (B7.out _ _ _ h11.out).mono ?_
  rintro e x4 ⟨rfl, b⟩
  have h12 := Lib.hid (h11.out.keep b)
  clear b
  go_wp2_with fail
  go_ret
  exact ⟨rfl, h12.out.below⟩
end Go.Proofs.Ytdhcmnbajkpjiaa
/-
  The reference's calls of a forest keep the order of its nodes: each parent came ahead.
-/
namespace Go.Proofs.Ytdhcmnbajkpjiaa
open Go.RowKit
open Go.Maps
set_option linter.unusedVariables false
set_option linter.unusedSimpArgs false
attribute [local go_sem] drewN_alloc drewN_setCell

variable {P : Nat → Prop} {w w' : World} {V : Value} {n : Nat} {S : FSt} {N : List Nat}
/-- What the reference's Add hands back. -/
def AddIsO (P : Nat → Prop) (n : Nat) (S S' : FSt) (w : World) (e : Ending) (w' : World) : Prop :=
  ∃ V' N', e = .returned (.tuple #[V', .int .i64 (S.tp n), .int .i64 (S.tg n), .bool (S.tb n)]) ∧ RefIs P w' V' n S' N' ∧ Ord N' S'.up ∧ Below w.heap.size w w'
theorem refAddO_root (hO : Ord N S.up) (hi : FI n S.up S.O S.cl S.fr S.R) (hul : S.up.length = n) (hP : ∀ b, w.heap.size ≤ b → P b) (h : RefIs P w V n S N) :
    Calls Try.prog 42 #[V, .int .i64 (-1)] w (AddIsO P n S (S.add n n (-1)) w) := by
  have hl := h.2.le hi
  unfold AddIsO FSt.tp FSt.tg FSt.tb
  rcases hp : pickP S.cl S.fr n with _ | ⟨p, cl', fr'⟩
  · refine (ref37_Add_none_root hp h.1).mono ?_
    rintro e w' ⟨rfl, hb⟩
    have e2 : S.add n n (-1) = S := by unfold FSt.add; rw [hp]
    rw [e2]
    exact ⟨V, N, rfl, h.keep hb, hO, hb⟩
  · have hno := (hi.s.pick hp).2.1
    refine (ref37_Add_root hp hi.s hi.n1 hl (fun hm => hno ((h.2.mem p).1 hm)) hul hP h.1).mono ?_
    rintro e w' ⟨V', rfl, hr, hb⟩
    refine ⟨V', N ++ [p], rfl, ⟨?_, h.2.add hi hul hp (.inl ⟨rfl, rfl⟩)⟩, hO.step hi h.2 hul hp (.inl rfl), hb⟩
    have e2 : S.add n n (-1) = ⟨S.g, S.up.set p (-1), p :: S.O, cl', fr', PC.updR S.R n (S.R n ++ [p])⟩ := by unfold FSt.add; rw [hp]
    rw [e2]
    exact hr
theorem refAddO_kid (hO : Ord N S.up) (j : Nat) (hj : j ∈ S.O) (hi : FI n S.up S.O S.cl S.fr S.R) (hul : S.up.length = n) (hP : ∀ b, w.heap.size ≤ b → P b) (h : RefIs P w V n S N) :
    Calls Try.prog 42 #[V, .int .i64 (j : Int)] w (AddIsO P n S (S.add n j (j : Int)) w) := by
  have hl := h.2.le hi
  have hjN := (h.2.mem j).2 hj
  unfold AddIsO FSt.tp FSt.tg FSt.tb
  rcases hp : pickP S.cl S.fr n with _ | ⟨p, cl', fr'⟩
  · refine (ref37_Add_none_kid j hjN hp h.1).mono ?_
    rintro e w' ⟨rfl, hb⟩
    have e2 : S.add n j (j : Int) = S := by unfold FSt.add; rw [hp]
    rw [e2]
    exact ⟨V, N, rfl, h.keep hb, hO, hb⟩
  · have hno := (hi.s.pick hp).2.1
    refine (ref37_Add_kid j hjN hp hi.s hi.n1 hl (fun hm => hno ((h.2.mem p).1 hm)) hul hP h.1).mono ?_
    rintro e w' ⟨V', rfl, hr, hb⟩
    refine ⟨V', N ++ [p], rfl, ⟨?_, h.2.add hi hul hp (.inr ⟨hi.lt hj, rfl⟩)⟩, hO.step hi h.2 hul hp (.inr ⟨j, hjN, rfl⟩), hb⟩
    have e2 : S.add n j (j : Int) = ⟨S.g, S.up.set p (j : Int), p :: S.O, cl', fr', PC.updR S.R j (S.R j ++ [p])⟩ := by unfold FSt.add; rw [hp]
    rw [e2]
    exact hr
/-- What the reference's Drop hands back. -/
def DropIsO (P : Nat → Prop) (n : Nat) (S : FSt) (x : Int) (w : World) (e : Ending) (w' : World) : Prop :=
  ∃ V' N', e = .returned (.tuple #[V', .bool (dropOk S.O S.R x)]) ∧ RefIs P w' V' n (S.drop n x) N' ∧ Ord N' (S.drop n x).up ∧ Below w.heap.size w w'
theorem refDropO (x : Int) (hO : Ord N S.up) (hi : FI n S.up S.O S.cl S.fr S.R) (hP : ∀ b, w.heap.size ≤ b → P b) (h : RefIs P w V n S N) :
    Calls Try.prog 38 #[V, .int .i64 x] w (DropIsO P n S x w) := by
  have hl := h.2.le hi
  unfold DropIsO
  by_cases hx : dropOk S.O S.R x = true
  · have hx2 := hx
    unfold dropOk at hx2
    simp only [Bool.and_eq_true, decide_eq_true_eq] at hx2
    obtain ⟨p, hpO, rfl⟩ : ∃ p : Nat, p ∈ S.O ∧ x = p := by
      have hm := hx2.1
      unfold ints at hm
      obtain ⟨p, hp, e⟩ := List.mem_map.1 hm
      exact ⟨p, hp, e.symm⟩
    have e0 : ((p : Int)).toNat = p := by omega
    have e1 : childN N S.up (p : Int) = [] := by
      rw [← h.2.kid p (hi.lt hpO), ← e0]; exact hx2.2
    rw [hx]
    refine (ref37_Drop_yes p ((h.2.mem p).2 hpO) hpO e1 hi.s hi.n1 hl hP h.1).mono ?_
    rintro e w' ⟨V', rfl, hr, hb⟩
    refine ⟨V', PC.cut N p, rfl, ⟨?_, h.2.drop hi hx⟩, hO.drop hi h.2 hx, hb⟩
    have e2 : S.drop n (p : Int) = ⟨S.g.set p (IntKind.i64.wrap (S.g.getD p 0 + 1)), S.up, S.O.erase p, S.cl ++ [p], S.fr, PC.updR S.R (S.row n p) (PC.cut (S.R (S.row n p)) p)⟩ := by
      unfold FSt.drop
      rw [if_pos hx, e0]
    rw [e2]
    exact hr
  · have e2 : S.drop n x = S := by unfold FSt.drop; rw [if_neg hx]
    have hx' : dropOk S.O S.R x = false := by simpa using hx
    rw [e2, hx']
    have eis := h.2.is x
    by_cases hm : x ∈ ints S.O
    · rw [decide_eq_true hm] at eis
      have hin := of_decide_eq_true eis
      have hm2 := in_nat.1 hm
      have hk : childN N S.up x ≠ [] := fun e => hx (by
        unfold dropOk
        rw [decide_eq_true hm, Bool.true_and]
        refine decide_eq_true ?_
        rw [h.2.kid _ (hi.lt hm2.2), Int.toNat_of_nonneg hm2.1]
        exact e)
      refine (ref37_Drop_kids x hin hk hl h.1).mono ?_
      rintro e w' ⟨rfl, hb⟩
      exact ⟨V, N, rfl, h.keep hb, hO, hb⟩
    · rw [decide_eq_false hm] at eis
      refine (ref37_Drop_bad x (place_lt (of_decide_eq_false eis)) h.1).mono ?_
      rintro e w' ⟨rfl, hb⟩
      exact ⟨V, N, rfl, h.keep hb, hO, hb⟩
end Go.Proofs.Ytdhcmnbajkpjiaa
/-
  Layer 38 (walk): the law's forest, and the reference's.
-/
namespace Go.Proofs.Ytdhcmnbajkpjiaa
open Go.RowKit
open Go.Maps
set_option linter.unusedVariables false
set_option linter.unusedSimpArgs false
attribute [local go_sem] drewN_alloc drewN_setCell

variable {w0 w w' : World} {own : Nat → Prop} {Fb rb n : Nat} {S : FSt} {N : List Nat} {V : Value}
section
variable {P : Nat → Prop} {w5 : World} {S' : FSt}
theorem RefIs.form (h : RefIs P w V n S N) {k : Nat} (hk : N.length = k) : ∃ Ao co Ag cg Ac mc cc f An cn Ap cp, V = .agg #[.slice Ao n co, .slice Ag n cg, .slice Ac mc cc, .int .i64 f, .slice An k cn, .slice Ap k cp] := by
  subst hk
  obtain ⟨⟨Ao, co, Ag, cg, Ac, cc, An, cn, Ap, cp, rfl, _⟩, _⟩ := h
  exact ⟨_, _, _, _, _, _, _, _, _, _, _, _, rfl⟩
def vcells (V : Value) : List Value := match V with | .agg a => a.toList | _ => []
theorem RefIs.step2 {own' : Nat → Prop} {tb : Nat} (h : RefIs (fun b => ¬ own b ∧ b ≠ rb ∧ b ≠ tb) w V n S N) (hc : Chg own w w') (ho : ∀ k, own' k → own k ∨ w.heap.size ≤ k) : RefF (fun b => ¬ own' b ∧ b ≠ rb ∧ b ≠ tb) w' V n S.g S.O S.cl S.fr N S.up := by
  refine (h.1.mono (fun b hb hP => ?_) : RefF (fun b => ¬ own b ∧ (b ≠ rb ∧ b ≠ tb) ∧ ¬ own' b) w V n S.g S.O S.cl S.fr N S.up).blocks hc.size (fun b hb hP => hc.block b hb hP.1) |>.mono (fun b _ hP => ⟨hP.2.2, hP.2.1⟩)
  refine ⟨hP.1, hP.2, fun hh => ?_⟩
  rcases ho b hh with h1 | h1
  · exact hP.1 h1
  · omega
theorem over_take2 {tb : Nat} (h : OverStep w5 w own Fb n S' w') (hi : RefIs (fun b => ¬ own b ∧ b ≠ rb ∧ b ≠ tb) w V n S N) (hrb : ¬ own rb) (hlt : rb < w.heap.size) :
    ∃ own', ForestOver w5 w' own' Fb n S' ∧ RefIs (fun b => ¬ own' b ∧ b ≠ rb ∧ b ≠ tb) w' V n S N ∧ ¬ own' rb ∧ (∀ k, k < w.heap.size → ¬ own k → w'.heap[k]? = w.heap[k]? ∧ ¬ own' k) ∧ w.heap.size ≤ w'.heap.size := by
  obtain ⟨own', h1, h2, h3⟩ := h
  have key : ∀ k, k < w.heap.size → ¬ own k → ¬ own' k := fun k hk hn hh => by
    rcases h3 k hh with h4 | h4
    · exact hn h4
    · omega
  exact ⟨own', h1, ⟨hi.step2 h2 h3, hi.2⟩, key rb hlt hrb, fun k hk hn => ⟨h2.block k hk hn, key k hk hn⟩, h2.size⟩
theorem RefIs.far2 {tb : Nat} (h : RefIs (fun b => ¬ own b ∧ b ≠ rb ∧ b ≠ tb) w V n S N) (hs : w.heap.size ≤ w'.heap.size) (hb : ∀ k, k ≠ rb → w'.heap[k]? = w.heap[k]?) : RefIs (fun b => ¬ own b ∧ b ≠ rb ∧ b ≠ tb) w' V n S N :=
  ⟨h.1.blocks hs (fun b _ hP => hb b hP.2.1), h.2⟩
end
/-- A forest, and the reference's. -/
def GrownIs (w : World) (e : Ending) (w' : World) : Prop :=
  ∃ Fb own V S N, e = .returned (.tuple #[.pointer (some ⟨Fb, 0, none⟩), V]) ∧ ForestOver w w' own Fb 30 S ∧ RefIs (fun _ => True) w' V 30 S N ∧ Ord N S.up
/-- At the head of a round. -/
def GrRel (w5 : World) (tb Fb rb m : Nat) (i : Value) (wr : World) : Prop :=
  ∃ (j : Nat) (own : Nat → Prop) (S : FSt) (N : List Nat) (V : Value), j ≤ m ∧ i = .int .i64 j ∧ ForestOver w5 wr own Fb 30 S ∧ ¬ own rb ∧ RowAt wr rb 58 (vcells V) ∧ RefIs (fun b => ¬ own b ∧ b ≠ rb ∧ b ≠ tb) wr V 30 S N ∧ Ord N S.up ∧ RowAt wr tb 58 [.slice none 0 0, .slice none 0 0, .slice none 0 0, .int .i64 0, .slice none 0 0, .slice none 0 0]
set_option maxRecDepth 100000 in
set_option maxHeartbeats 16000000 in
theorem law38_grown {A : Option Addr} {m : Nat} (c : Nat) (xs : List Int) (w : World) (hA : BytesAt w A m xs) (hm : m ≤ 60) :
    Calls Try.prog 71 #[.slice A m c] w (GrownIs w) := by
  obtain ⟨w5, hw5⟩ : ∃ w5, w.alloc (.cells #[.slice none 0 0, .slice none 0 0, .slice none 0 0, .int .i64 0, .slice none 0 0, .slice none 0 0] 58) = w5 := ⟨_, rfl⟩
  have T5 : RowAt w5 w.heap.size 58 [.slice none 0 0, .slice none 0 0, .slice none 0 0, .int .i64 0, .slice none 0 0, .slice none 0 0] := by rw [← hw5]; exact RowAt.new w 58 _
  have D5 : Below w.heap.size w w5 := by rw [← hw5]; exact (by repeat (first | exact Below.refl _ _ | assumption | refine bel_drew ?_ | refine bel_drewN ?_ _ | refine bel_alloc ?_ _ | refine bel_set ?_ (by first | (dsimp only; omega) | (simp; done) | (simp; omega)) _ | refine bel_trans ?_ (by assumption)))
  have HW5 := Lib.hid hw5
  have S5 : w.heap.size < w5.heap.size := T5.lt
  have HA := Lib.hid hA
  have NN := Lib.hid (overf_New 30 w5 (by omega))
  obtain ⟨tb, htb⟩ : ∃ tb, w.heap.size = tb := ⟨_, rfl⟩
  have HTB := Lib.hid htb
  rw [htb] at T5 S5
  replace T5 := Lib.hid T5
  replace S5 := Lib.hid S5
  replace D5 := Lib.hid D5
  clear hA hw5
  go_enter Try.func71, Try.ntmps71
  go_upto_region 1 with (fail)
  rw [HW5.out]
  clear htb
  go_wp2_with fail
  refine NN.out.mono ?_
  rintro e w1 ⟨Fb, o1, rfl, FO1⟩
  go_wp2_with fail
  refine (ref37_New (P := fun b => ¬ o1 b ∧ b ≠ tb) 30 (by omega) (fun b hb => ⟨fun hh => by have := (FO1.fresh b hh).2; omega, by have := FO1.below.size; have := S5.out; omega⟩)).mono ?_
  rintro e w2 ⟨V, rfl, RI2, hb2⟩
  have FO2 := FO1.keep hb2
  have RI2' : RefIs (fun b => ¬ o1 b ∧ b ≠ tb) w2 V 30 (FSt.new 30) [] := ⟨RI2, NRel.none 30⟩
  have t2 := T5.out.below FO2.below S5.out
  clear RI2
  obtain ⟨Ao, co, Ag, cg, Ac, mc, cc, f, An, cn, Ap, cp, rfl⟩ := RI2'.form (k := 0) rfl
  have o1lt : ∀ k, o1 k → k < w2.heap.size := fun k hk => (FO2.fresh k hk).2
  have w25 := FO2.below.size
  clear hb2 FO1
  go_upto_region 2 with (fail)
  refine region_name ?_
  rintro W3 hW3
  obtain ⟨rb, hrb⟩ : ∃ rb, w2.heap.size = rb := ⟨_, rfl⟩
  rw [hrb]
  have b3 : Below w2.heap.size w2 W3 := by rw [hW3]; exact (by repeat (first | exact Below.refl _ _ | assumption | refine bel_drew ?_ | refine bel_drewN ?_ _ | refine bel_alloc ?_ _ | refine bel_set ?_ (by first | (dsimp only; omega) | (simp; done) | (simp; omega)) _ | refine bel_trans ?_ (by assumption)))
  have HR3 : Hid (GrRel w5 tb Fb rb m (.int .i64 0) W3) := Lib.hid ⟨0, o1, FSt.new 30, [], _, Nat.zero_le _, rfl, FO2.keep b3, fun hh => by have := o1lt _ hh; omega, (by rw [hW3, ← hrb]; exact RowAt.new w2 58 [.slice Ao 30 co, .slice Ag 30 cg, .slice Ac mc cc, .int .i64 f, .slice An 0 cn, .slice Ap 0 cp]), ⟨(RI2'.1.mono (fun b hb hP => ⟨hP.1, by omega, hP.2⟩)).keep b3, RI2'.2⟩, Ord.none _, t2.keep b3⟩
  have HB5 : Hid (w5.heap.size ≤ rb) := Lib.hid (by omega)
  clear hW3 b3 FO2 RI2' o1lt w25 hrb NN t2
  go_wp2_with fail
  go_loopw [6] (fun i wr => GrRel w5 tb Fb rb m i wr) (fun i _ => m - (intOf i).toNat)
  case atStart => exact HR3.out
  case round =>
    clear HR3
    obtain ⟨j, own, S, N, V, hj, rfl, FO, hrb, hrow, RI, hO, ht⟩ := hrel
    have HB5' := HB5.out
    have g0 : (0 : Int) ≤ (j : Int) := by omega
    obtain ⟨k, hk⟩ : ∃ k, N.length = k := ⟨_, rfl⟩
    obtain ⟨Ao, co, Ag, cg, Ac, mc, cc, f, An, cn, Ap, cp, rfl⟩ := RI.form hk
    have HKN := Lib.hid hk
    have r0 : RowAt wr rb 58 [.slice Ao 30 co, .slice Ag 30 cg, .slice Ac mc cc, .int .i64 f, .slice An k cn, .slice Ap k cp] := hrow
    have HRB0 := Lib.hid hrb
    have HO := Lib.hid hO
    clear hrow hrb hk hO
    by_cases hlt : (j : Int) < m
    · have bw : Below w.heap.size w wr := bel_trans D5.out FO.below
      have AB := HA.out.keep bw
      obtain ⟨bA, oA, rfl, hbA, hc⟩ := AB.2.2.2 (by omega)
      have y0 := hc j (by omega)
      have hbd := AB.bd (i := j) (by omega)
      obtain ⟨v, hv⟩ : ∃ v, xs.getD j 0 = v := ⟨_, rfl⟩
      rw [hv] at y0 hbd
      have HJ : Hid (j + 1 ≤ m) := Lib.hid (by omega)
      have hp0 : 0 ≤ v / 6 % 30 := by omega
      have HP0 : Hid (v / 6 % 30 < 30) := Lib.hid (by omega)
      obtain ⟨p, hp⟩ : ∃ p, v / 6 % 30 = p := ⟨_, rfl⟩
      obtain ⟨q, hq⟩ : ∃ q, v % 6 = q := ⟨_, rfl⟩
      rw [hp] at hp0 HP0
      have HFR : Hid (∀ k, wr.heap.size ≤ k → ¬ own k) := Lib.hid (fun k hk hh => by have := (FO.fresh k hh).2; omega)
      have HTO : Hid (¬ own tb) := Lib.hid (fun hh => by have := (FO.fresh _ hh).1; have := S5.out; omega)
      have HPN : Hid (∀ b, wr.heap.size ≤ b → ¬ own b ∧ b ≠ rb ∧ b ≠ tb) := Lib.hid (fun b hb => ⟨HFR.out b hb, by have := r0.lt; omega, by have := ht.lt; omega⟩)
      have ltr := r0.lt
      have ltt := ht.lt
      have nrt : tb ≠ rb := by have := HB5.out; have := S5.out; omega
      clear hc hv AB bw HFR hj hlt
      by_cases hq0 : q = 0
      · have q0 : (q == 0) = true := by simpa using hq0
        clear hq0
        have KF := Lib.hid (overf_Root FO)
        rw [told_eq] at KF
        have hfi := Lib.hid FO.fi
        have hul := Lib.hid FO.ulen
        have HL := Lib.hid (RI.2.le FO.fi)
        go_wp2_with fail
        refine KF.out.mono ?_
        rintro e w2 ⟨rfl, hst⟩
        obtain ⟨own', FO2, RI2, rb2, hblk, sz2⟩ := over_take2 hst RI HRB0.out (by omega)
        have r2 := r0.of_block (hblk rb (by omega) HRB0.out).1
        have t2 := ht.of_block (hblk tb (by omega) HTO.out).1
        have HPN2 : Hid (∀ b, w2.heap.size ≤ b → ¬ own' b ∧ b ≠ rb ∧ b ≠ tb) := Lib.hid (fun b hb => ⟨fun hh => by have := (FO2.fresh b hh).2; omega, by omega, by omega⟩)
        clear hst RI r0 ht hblk KF FO
        have c0 : w2.cell? ⟨rb, 0, none⟩ = some (.slice Ao 30 co) := by rw [r2.cell]; rfl
        have c1 : w2.cell? ⟨rb, 1, none⟩ = some (.slice Ag 30 cg) := by rw [r2.cell]; rfl
        have c2 : w2.cell? ⟨rb, 2, none⟩ = some (.slice Ac mc cc) := by rw [r2.cell]; rfl
        have c3 : w2.cell? ⟨rb, 3, none⟩ = some (.int .i64 f) := by rw [r2.cell]; rfl
        have c4 : w2.cell? ⟨rb, 4, none⟩ = some (.slice An k cn) := by rw [r2.cell]; rfl
        have c5 : w2.cell? ⟨rb, 5, none⟩ = some (.slice Ap k cp) := by rw [r2.cell]; rfl
        have KA := Lib.hid (refAddO_root HO.out hfi.out hul.out HPN2.out RI2)
        go_wp2_with fail
        refine KA.out.mono ?_
        rintro e w3 ⟨V', N', rfl, RI3, hO3, hb3⟩
        have FO3 := FO2.keep hb3
        have r3 := r2.keep hb3
        have t3 := t2.keep hb3
        have O3 := Lib.hid hO3
        have sz3 := hb3.size
        obtain ⟨k', hk'⟩ : ∃ k, N'.length = k := ⟨_, rfl⟩
        obtain ⟨Ao', co', Ag', cg', Ac', mc', cc', f', An', cn', Ap', cp', rfl⟩ := RI3.form hk'
        clear c0 c1 c2 c3 c4 c5 r2 t2 hb3 FO2 KA hO3 hk'
        have d0 := (r3.cell 0).trans rfl
        have d1 := (r3.cell 1).trans rfl
        have d2 := (r3.cell 2).trans rfl
        have d3 := (r3.cell 3).trans rfl
        have d4 := (r3.cell 4).trans rfl
        have d5 := (r3.cell 5).trans rfl
        have f0' := r3.frozen 0
        have f1' := r3.frozen 1
        have f2' := r3.frozen 2
        have f3' := r3.frozen 3
        have f4' := r3.frozen 4
        have f5' := r3.frozen 5
        go_upto_region 4 with (fail)
        refine region_name ?_
        rintro W7 hW7
        have far : ∀ j, j ≠ rb → W7.heap[j]? = w3.heap[j]? := fun j hj => by rw [hW7]; exact set6_block _ _ _ _ _ _ _ _ _ hj
        have sz7 : w3.heap.size ≤ W7.heap.size := by rw [hW7]; simp
        have r7 : RowAt W7 rb 58 [.slice Ao' 30 co', .slice Ag' 30 cg', .slice Ac' mc' cc', .int .i64 f', .slice An' k' cn', .slice Ap' k' cp'] := by
          rw [hW7]; exact (((((r3.set_ 0 _).set_ 1 _).set_ 2 _).set_ 3 _).set_ 4 _).set_ 5 _
        have t7 := t3.of_block (far tb nrt)
        have RI7 := RI3.far2 sz7 far
        have B7 : Below w5.heap.size w5 W7 := by rw [hW7]; exact set6_below FO3.below HB5.out _ _ _ _ _ _
        have FO7 := FO3.of_own (fun j hj => far j (fun e => rb2 (e ▸ hj))) sz7 B7
        have HREL : Hid (GrRel w5 tb Fb rb m (.int .i64 ((j + 1 : Nat) : Int)) W7) := Lib.hid ⟨j + 1, own', _, N', .agg #[.slice Ao' 30 co', .slice Ag' 30 cg', .slice Ac' mc' cc', .int .i64 f', .slice An' k' cn', .slice Ap' k' cp'], HJ.out, rfl, FO7, rb2, r7, RI7, O3.out, t7⟩
        clear hW7 far sz7 r3 t3 RI3 B7 FO3 rb2 r7 t7 RI7 FO7 d0 d1 d2 d3 d4 d5 f0' f1' f2' f3' f4' f5'
        have wj : IntKind.i64.wrap ((j : Int) + 1) = ((j + 1 : Nat) : Int) := by rw [IntKind.wrap_i64]; have := HJ.out; omega
        go_wp2_with fail
        go_roundw
        case rel => exact HREL.out
        case measure => have := HJ.out; simp [intOf]; omega
      · have q0 : (q == 0) = false := by simpa using hq0
        by_cases hq5 : q = 5
        · have q5 : (q == 5) = true := by simpa using hq5
          clear hq0 hq5
          have KF := Lib.hid (overf_Drop p FO)
          have hfi := Lib.hid FO.fi
          have hul := Lib.hid FO.ulen
          have HL := Lib.hid (RI.2.le FO.fi)
          go_wp2_with fail
          refine KF.out.mono ?_
          rintro e w2 ⟨rfl, hst⟩
          obtain ⟨own', FO2, RI2, rb2, hblk, sz2⟩ := over_take2 hst RI HRB0.out (by omega)
          have r2 := r0.of_block (hblk rb (by omega) HRB0.out).1
          have t2 := ht.of_block (hblk tb (by omega) HTO.out).1
          have HPN2 : Hid (∀ b, w2.heap.size ≤ b → ¬ own' b ∧ b ≠ rb ∧ b ≠ tb) := Lib.hid (fun b hb => ⟨fun hh => by have := (FO2.fresh b hh).2; omega, by omega, by omega⟩)
          clear hst RI r0 ht hblk KF FO
          have c0 : w2.cell? ⟨rb, 0, none⟩ = some (.slice Ao 30 co) := by rw [r2.cell]; rfl
          have c1 : w2.cell? ⟨rb, 1, none⟩ = some (.slice Ag 30 cg) := by rw [r2.cell]; rfl
          have c2 : w2.cell? ⟨rb, 2, none⟩ = some (.slice Ac mc cc) := by rw [r2.cell]; rfl
          have c3 : w2.cell? ⟨rb, 3, none⟩ = some (.int .i64 f) := by rw [r2.cell]; rfl
          have c4 : w2.cell? ⟨rb, 4, none⟩ = some (.slice An k cn) := by rw [r2.cell]; rfl
          have c5 : w2.cell? ⟨rb, 5, none⟩ = some (.slice Ap k cp) := by rw [r2.cell]; rfl
          have KA := Lib.hid (refDropO p HO.out hfi.out HPN2.out RI2)
          go_wp2_with fail
          refine KA.out.mono ?_
          rintro e w3 ⟨V', N', rfl, RI3, hO3, hb3⟩
          have FO3 := FO2.keep hb3
          have r3 := r2.keep hb3
          have t3 := t2.keep hb3
          have O3 := Lib.hid hO3
          have sz3 := hb3.size
          obtain ⟨k', hk'⟩ : ∃ k, N'.length = k := ⟨_, rfl⟩
          obtain ⟨Ao', co', Ag', cg', Ac', mc', cc', f', An', cn', Ap', cp', rfl⟩ := RI3.form hk'
          clear c0 c1 c2 c3 c4 c5 r2 t2 hb3 FO2 KA hO3 hk'
          have d0 := (r3.cell 0).trans rfl
          have d1 := (r3.cell 1).trans rfl
          have d2 := (r3.cell 2).trans rfl
          have d3 := (r3.cell 3).trans rfl
          have d4 := (r3.cell 4).trans rfl
          have d5 := (r3.cell 5).trans rfl
          have f0' := r3.frozen 0
          have f1' := r3.frozen 1
          have f2' := r3.frozen 2
          have f3' := r3.frozen 3
          have f4' := r3.frozen 4
          have f5' := r3.frozen 5
          go_upto_region 4 with (fail)
          refine region_name ?_
          rintro W7 hW7
          have far : ∀ j, j ≠ rb → W7.heap[j]? = w3.heap[j]? := fun j hj => by rw [hW7]; exact set6_block _ _ _ _ _ _ _ _ _ hj
          have sz7 : w3.heap.size ≤ W7.heap.size := by rw [hW7]; simp
          have r7 : RowAt W7 rb 58 [.slice Ao' 30 co', .slice Ag' 30 cg', .slice Ac' mc' cc', .int .i64 f', .slice An' k' cn', .slice Ap' k' cp'] := by
            rw [hW7]; exact (((((r3.set_ 0 _).set_ 1 _).set_ 2 _).set_ 3 _).set_ 4 _).set_ 5 _
          have t7 := t3.of_block (far tb nrt)
          have RI7 := RI3.far2 sz7 far
          have B7 : Below w5.heap.size w5 W7 := by rw [hW7]; exact set6_below FO3.below HB5.out _ _ _ _ _ _
          have FO7 := FO3.of_own (fun j hj => far j (fun e => rb2 (e ▸ hj))) sz7 B7
          have HREL : Hid (GrRel w5 tb Fb rb m (.int .i64 ((j + 1 : Nat) : Int)) W7) := Lib.hid ⟨j + 1, own', _, N', .agg #[.slice Ao' 30 co', .slice Ag' 30 cg', .slice Ac' mc' cc', .int .i64 f', .slice An' k' cn', .slice Ap' k' cp'], HJ.out, rfl, FO7, rb2, r7, RI7, O3.out, t7⟩
          clear hW7 far sz7 r3 t3 RI3 B7 FO3 rb2 r7 t7 RI7 FO7 d0 d1 d2 d3 d4 d5 f0' f1' f2' f3' f4' f5'
          have wj : IntKind.i64.wrap ((j : Int) + 1) = ((j + 1 : Nat) : Int) := by rw [IntKind.wrap_i64]; have := HJ.out; omega
          go_wp2_with fail
          go_roundw
          case rel => exact HREL.out
          case measure => have := HJ.out; simp [intOf]; omega
        · have q5 : (q == 5) = false := by simpa using hq5
          clear hq0 hq5
          by_cases hin : p ∈ ints S.O
          · skip
            have KF : Hid (Calls Try.prog 40 #[.pointer (some ⟨Fb, 0, none⟩), .int .i64 p] wr fun e w' => e = .returned (.tuple #[.int .i64 (S.tp 30), .int .i64 (S.tg 30), .bool (S.tb 30)]) ∧ OverStep w5 wr own Fb 30 (S.add 30 p.toNat p) w') := Lib.hid (by
              have := overf_Child p FO
              have e1 : S.toldC 30 p = S.told 30 := by unfold FSt.toldC; rw [if_pos hin]
              have e2 : S.child 30 p = (S.add 30 p.toNat p) := by unfold FSt.child; rw [if_pos hin]
              rwa [e1, e2, told_eq] at this)
            have hfi := Lib.hid FO.fi
            have hul := Lib.hid FO.ulen
            have HL := Lib.hid (RI.2.le FO.fi)
            go_wp2_with fail
            refine KF.out.mono ?_
            rintro e w2 ⟨rfl, hst⟩
            obtain ⟨own', FO2, RI2, rb2, hblk, sz2⟩ := over_take2 hst RI HRB0.out (by omega)
            have r2 := r0.of_block (hblk rb (by omega) HRB0.out).1
            have t2 := ht.of_block (hblk tb (by omega) HTO.out).1
            have HPN2 : Hid (∀ b, w2.heap.size ≤ b → ¬ own' b ∧ b ≠ rb ∧ b ≠ tb) := Lib.hid (fun b hb => ⟨fun hh => by have := (FO2.fresh b hh).2; omega, by omega, by omega⟩)
            clear hst RI r0 ht hblk KF FO
            have c0 : w2.cell? ⟨rb, 0, none⟩ = some (.slice Ao 30 co) := by rw [r2.cell]; rfl
            have c1 : w2.cell? ⟨rb, 1, none⟩ = some (.slice Ag 30 cg) := by rw [r2.cell]; rfl
            have c2 : w2.cell? ⟨rb, 2, none⟩ = some (.slice Ac mc cc) := by rw [r2.cell]; rfl
            have c3 : w2.cell? ⟨rb, 3, none⟩ = some (.int .i64 f) := by rw [r2.cell]; rfl
            have c4 : w2.cell? ⟨rb, 4, none⟩ = some (.slice An k cn) := by rw [r2.cell]; rfl
            have c5 : w2.cell? ⟨rb, 5, none⟩ = some (.slice Ap k cp) := by rw [r2.cell]; rfl
            have KP := Lib.hid (ref37_At p RI2.1)
            have HIN := Lib.hid hin
            have e1 : PC.place N p = (N.idxOf p.toNat : Nat) := by
              have h2 := in_nat.1 hin
              unfold PC.place; rw [if_pos ⟨h2.1, (RI2.2.mem _).2 h2.2⟩]
            obtain ⟨z, hz⟩ : ∃ z, N.idxOf p.toNat = z := ⟨_, rfl⟩
            rw [e1, hz] at KP
            have z0 : (0 : Int) ≤ (z : Int) := by omega
            clear e1 hz hin
            go_wp2_with fail
            refine KP.out.mono ?_
            rintro e w22 ⟨rfl, hb22⟩
            have FO22 := FO2.keep hb22
            have r22 := r2.keep hb22
            have t22 := t2.keep hb22
            have RI22 := RI2.keep hb22
            have sz22 := hb22.size
            clear c0 c1 c2 c3 c4 c5 r2 t2 hb22 FO2 RI2 KP
            have c0 : w22.cell? ⟨rb, 0, none⟩ = some (.slice Ao 30 co) := by rw [r22.cell]; rfl
            have c1 : w22.cell? ⟨rb, 1, none⟩ = some (.slice Ag 30 cg) := by rw [r22.cell]; rfl
            have c2 : w22.cell? ⟨rb, 2, none⟩ = some (.slice Ac mc cc) := by rw [r22.cell]; rfl
            have c3 : w22.cell? ⟨rb, 3, none⟩ = some (.int .i64 f) := by rw [r22.cell]; rfl
            have c4 : w22.cell? ⟨rb, 4, none⟩ = some (.slice An k cn) := by rw [r22.cell]; rfl
            have c5 : w22.cell? ⟨rb, 5, none⟩ = some (.slice Ap k cp) := by rw [r22.cell]; rfl
            have KA : Hid (Calls Try.prog 42 #[.agg #[.slice Ao 30 co, .slice Ag 30 cg, .slice Ac mc cc, .int .i64 f, .slice An k cn, .slice Ap k cp], .int .i64 p] w22 (AddIsO (fun b => ¬ own' b ∧ b ≠ rb ∧ b ≠ tb) 30 S (S.add 30 p.toNat p) w22)) := Lib.hid (by
              have h2 := in_nat.1 HIN.out
              have := refAddO_kid HO.out p.toNat h2.2 hfi.out hul.out (fun b hb => HPN2.out b (by omega)) RI22
              rwa [Int.toNat_of_nonneg h2.1] at this)
            go_wp2_with fail
            refine KA.out.mono ?_
            rintro e w3 ⟨V', N', rfl, RI3, hO3, hb3⟩
            have FO2 := FO22
            have r2 := r22
            have t2 := t22
            clear FO22 r22 t22 RI22
            have FO3 := FO2.keep hb3
            have r3 := r2.keep hb3
            have t3 := t2.keep hb3
            have O3 := Lib.hid hO3
            have sz3 := hb3.size
            obtain ⟨k', hk'⟩ : ∃ k, N'.length = k := ⟨_, rfl⟩
            obtain ⟨Ao', co', Ag', cg', Ac', mc', cc', f', An', cn', Ap', cp', rfl⟩ := RI3.form hk'
            clear c0 c1 c2 c3 c4 c5 r2 t2 hb3 FO2 KA hO3 hk'
            have d0 := (r3.cell 0).trans rfl
            have d1 := (r3.cell 1).trans rfl
            have d2 := (r3.cell 2).trans rfl
            have d3 := (r3.cell 3).trans rfl
            have d4 := (r3.cell 4).trans rfl
            have d5 := (r3.cell 5).trans rfl
            have f0' := r3.frozen 0
            have f1' := r3.frozen 1
            have f2' := r3.frozen 2
            have f3' := r3.frozen 3
            have f4' := r3.frozen 4
            have f5' := r3.frozen 5
            go_upto_region 4 with (fail)
            refine region_name ?_
            rintro W7 hW7
            have far : ∀ j, j ≠ rb → W7.heap[j]? = w3.heap[j]? := fun j hj => by rw [hW7]; exact set6_block _ _ _ _ _ _ _ _ _ hj
            have sz7 : w3.heap.size ≤ W7.heap.size := by rw [hW7]; simp
            have r7 : RowAt W7 rb 58 [.slice Ao' 30 co', .slice Ag' 30 cg', .slice Ac' mc' cc', .int .i64 f', .slice An' k' cn', .slice Ap' k' cp'] := by
              rw [hW7]; exact (((((r3.set_ 0 _).set_ 1 _).set_ 2 _).set_ 3 _).set_ 4 _).set_ 5 _
            have t7 := t3.of_block (far tb nrt)
            have RI7 := RI3.far2 sz7 far
            have B7 : Below w5.heap.size w5 W7 := by rw [hW7]; exact set6_below FO3.below HB5.out _ _ _ _ _ _
            have FO7 := FO3.of_own (fun j hj => far j (fun e => rb2 (e ▸ hj))) sz7 B7
            have HREL : Hid (GrRel w5 tb Fb rb m (.int .i64 ((j + 1 : Nat) : Int)) W7) := Lib.hid ⟨j + 1, own', _, N', .agg #[.slice Ao' 30 co', .slice Ag' 30 cg', .slice Ac' mc' cc', .int .i64 f', .slice An' k' cn', .slice Ap' k' cp'], HJ.out, rfl, FO7, rb2, r7, RI7, O3.out, t7⟩
            clear hW7 far sz7 r3 t3 RI3 B7 FO3 rb2 r7 t7 RI7 FO7 d0 d1 d2 d3 d4 d5 f0' f1' f2' f3' f4' f5'
            have wj : IntKind.i64.wrap ((j : Int) + 1) = ((j + 1 : Nat) : Int) := by rw [IntKind.wrap_i64]; have := HJ.out; omega
            go_wp2_with fail
            go_roundw
            case rel => exact HREL.out
            case measure => have := HJ.out; simp [intOf]; omega
          · skip
            have KF : Hid (Calls Try.prog 40 #[.pointer (some ⟨Fb, 0, none⟩), .int .i64 p] wr fun e w' => e = .returned (.tuple #[.int .i64 0, .int .i64 0, .bool false]) ∧ OverStep w5 wr own Fb 30 S w') := Lib.hid (by
              have := overf_Child p FO
              have e1 : S.toldC 30 p = .tuple #[.int .i64 0, .int .i64 0, .bool false] := by unfold FSt.toldC; rw [if_neg hin]
              have e2 : S.child 30 p = S := by unfold FSt.child; rw [if_neg hin]
              rwa [e1, e2] at this)
            have hfi := Lib.hid FO.fi
            have hul := Lib.hid FO.ulen
            have HL := Lib.hid (RI.2.le FO.fi)
            go_wp2_with fail
            refine KF.out.mono ?_
            rintro e w2 ⟨rfl, hst⟩
            obtain ⟨own', FO2, RI2, rb2, hblk, sz2⟩ := over_take2 hst RI HRB0.out (by omega)
            have r2 := r0.of_block (hblk rb (by omega) HRB0.out).1
            have t2 := ht.of_block (hblk tb (by omega) HTO.out).1
            have HPN2 : Hid (∀ b, w2.heap.size ≤ b → ¬ own' b ∧ b ≠ rb ∧ b ≠ tb) := Lib.hid (fun b hb => ⟨fun hh => by have := (FO2.fresh b hh).2; omega, by omega, by omega⟩)
            clear hst RI r0 ht hblk KF FO
            have c0 : w2.cell? ⟨rb, 0, none⟩ = some (.slice Ao 30 co) := by rw [r2.cell]; rfl
            have c1 : w2.cell? ⟨rb, 1, none⟩ = some (.slice Ag 30 cg) := by rw [r2.cell]; rfl
            have c2 : w2.cell? ⟨rb, 2, none⟩ = some (.slice Ac mc cc) := by rw [r2.cell]; rfl
            have c3 : w2.cell? ⟨rb, 3, none⟩ = some (.int .i64 f) := by rw [r2.cell]; rfl
            have c4 : w2.cell? ⟨rb, 4, none⟩ = some (.slice An k cn) := by rw [r2.cell]; rfl
            have c5 : w2.cell? ⟨rb, 5, none⟩ = some (.slice Ap k cp) := by rw [r2.cell]; rfl
            have KP := Lib.hid (ref37_At p RI2.1)
            have e1 : PC.place N p = -1 := by
              unfold PC.place
              rw [if_neg (fun h => hin (in_nat.2 ⟨h.1, (RI2.2.mem _).1 h.2⟩))]
            rw [e1] at KP
            clear e1 hin
            go_wp2_with fail
            refine KP.out.mono ?_
            rintro e w3 ⟨rfl, hb3⟩
            have HREL : Hid (GrRel w5 tb Fb rb m (.int .i64 ((j + 1 : Nat) : Int)) w3) := Lib.hid ⟨j + 1, own', S, N, .agg #[.slice Ao 30 co, .slice Ag 30 cg, .slice Ac mc cc, .int .i64 f, .slice An k cn, .slice Ap k cp], HJ.out, rfl, FO2.keep hb3, rb2, r2.keep hb3, RI2.keep hb3, HO.out, t2.keep hb3⟩
            clear c0 c1 c2 c3 c4 c5 r2 t2 hb3 FO2 RI2 KP rb2
            have wj : IntKind.i64.wrap ((j : Int) + 1) = ((j + 1 : Nat) : Int) := by rw [IntKind.wrap_i64]; have := HJ.out; omega
            go_wp2_with fail
            go_roundw
            case rel => exact HREL.out
            case measure => have := HJ.out; simp [intOf]; omega
    · have hjm : ¬ (j : Int) < (m : Int) := hlt
      clear hlt
      have c0 : wr.cell? ⟨rb, 0, none⟩ = some (.slice Ao 30 co) := by rw [r0.cell]; rfl
      have c1 : wr.cell? ⟨rb, 1, none⟩ = some (.slice Ag 30 cg) := by rw [r0.cell]; rfl
      have c2 : wr.cell? ⟨rb, 2, none⟩ = some (.slice Ac mc cc) := by rw [r0.cell]; rfl
      have c3 : wr.cell? ⟨rb, 3, none⟩ = some (.int .i64 f) := by rw [r0.cell]; rfl
      have c4 : wr.cell? ⟨rb, 4, none⟩ = some (.slice An k cn) := by rw [r0.cell]; rfl
      have c5 : wr.cell? ⟨rb, 5, none⟩ = some (.slice Ap k cp) := by rw [r0.cell]; rfl
      have HT := Lib.hid ht
      have hTT : Hid (¬ own tb) := Lib.hid (fun hh => by have := (FO.fresh _ hh).1; have := S5.out; omega)
      have FO2 := Lib.hid FO
      have RI2 := Lib.hid RI
      have nrt : tb ≠ rb := by have := HB5.out; have := S5.out; omega
      have e0 := (HT.out.cell 0).trans rfl
      have e1 := (HT.out.cell 1).trans rfl
      have e2 := (HT.out.cell 2).trans rfl
      have e3 := (HT.out.cell 3).trans rfl
      have e4 := (HT.out.cell 4).trans rfl
      have e5 := (HT.out.cell 5).trans rfl
      have f0 := HT.out.frozen 0
      have f1 := HT.out.frozen 1
      have f2 := HT.out.frozen 2
      have f3 := HT.out.frozen 3
      have f4 := HT.out.frozen 4
      have f5 := HT.out.frozen 5
      clear FO RI r0 ht
      go_upto_region 16 with (fail)
      go_region
      obtain ⟨W6, hW6⟩ : ∃ W6, ((((((wr.setCell ⟨tb, 0, none⟩ (.slice Ao 30 co)).setCell ⟨tb, 1, none⟩ (.slice Ag 30 cg)).setCell ⟨tb, 2, none⟩ (.slice Ac mc cc)).setCell ⟨tb, 3, none⟩ (.int .i64 f)).setCell ⟨tb, 4, none⟩ (.slice An k cn)).setCell ⟨tb, 5, none⟩ (.slice Ap k cp)) = W6 := ⟨_, rfl⟩
      rw [hW6]
      have far : ∀ j, j ≠ tb → W6.heap[j]? = wr.heap[j]? := fun j hj => by rw [← hW6]; exact set6_block _ _ _ _ _ _ _ _ _ hj
      have sz7 : wr.heap.size ≤ W6.heap.size := by rw [← hW6]; simp
      have r7 : RowAt W6 tb 58 [.slice Ao 30 co, .slice Ag 30 cg, .slice Ac mc cc, .int .i64 f, .slice An k cn, .slice Ap k cp] := by
        rw [← hW6]; exact (((((HT.out.set_ 0 _).set_ 1 _).set_ 2 _).set_ 3 _).set_ 4 _).set_ 5 _
      have BW : Below w.heap.size w wr := D5.out.trans (FO2.out.below.mono (Nat.le_of_lt (by rw [HTB.out]; exact S5.out)))
      have B7 : Below w.heap.size w W6 := by rw [← hW6]; exact set6_below BW (Nat.le_of_eq HTB.out) _ _ _ _ _ _
      have HG : Hid (∀ W8 : World, W8 = W6.drew → GrownIs w (.returned (.tuple #[.pointer (some ⟨Fb, 0, none⟩), .agg #[.slice Ao 30 co, .slice Ag 30 cg, .slice Ac mc cc, .int .i64 f, .slice An k cn, .slice Ap k cp]])) W8) := Lib.hid (fun W8 e8 => by
        subst e8
        have s5 : w.heap.size ≤ w5.heap.size := by rw [HTB.out]; exact Nat.le_of_lt S5.out
        have FO3 : ForestOver w wr own Fb 30 S := ⟨FO2.out.ex, FO2.out.fi, fun k hk => ⟨Nat.le_trans s5 (FO2.out.fresh k hk).1, (FO2.out.fresh k hk).2⟩, BW⟩
        have FO6 : ForestOver w W6 own Fb 30 S := FO3.of_own (fun j hj => far j (fun e => hTT.out (e ▸ hj))) sz7 B7
        have RI6 : RefIs (fun _ => True) W6 (.agg #[.slice Ao 30 co, .slice Ag 30 cg, .slice Ac mc cc, .int .i64 f, .slice An k cn, .slice Ap k cp]) 30 S N := ⟨(RI2.out.1.blocks sz7 (fun b _ hP => far b hP.2.2)).mono (fun _ _ _ => trivial), RI2.out.2⟩
        have bd : Below W6.heap.size W6 W6.drew := (Below.refl _ _).drew
        exact ⟨Fb, own, _, S, N, rfl, FO6.keep bd, RI6.keep bd, HO.out⟩)
      have c60 := (r7.cell 0).trans rfl
      have c61 := (r7.cell 1).trans rfl
      have c62 := (r7.cell 2).trans rfl
      have c63 := (r7.cell 3).trans rfl
      have c64 := (r7.cell 4).trans rfl
      have c65 := (r7.cell 5).trans rfl
      clear hW6 far sz7 B7 BW e0 e1 e2 e3 e4 e5 f0 f1 f2 f3 f4 f5
      clear r7
      go_wp2_with fail
      exact bodyPost_ret (v := .tuple #[.pointer (some ⟨Fb, 0, none⟩), .agg #[.slice Ao 30 co, .slice Ag 30 cg, .slice Ac mc cc, .int .i64 f, .slice An k cn, .slice Ap k cp]]) (by simp [results, Try.results71, go_sem, c60, c61, c62, c63, c64, c65]) rfl (HG.out _ rfl)
end Go.Proofs.Ytdhcmnbajkpjiaa
/-
  Layer 38 (walk): what a nil forest tells.
-/
namespace Go.Proofs.Ytdhcmnbajkpjiaa
open Go.RowKit
open Go.Maps
set_option linter.unusedVariables false
set_option linter.unusedSimpArgs false
attribute [local go_sem] drewN_alloc drewN_setCell Oper.semAt_some

variable {w w' : World}
theorem walk_steps_nil (x : Int) (w : World) : Calls Try.prog 153 #[.pointer none, .int .i64 x] w fun e w' => e = .returned (.func (.func 162) #[] #[.pointer (some ⟨w.heap.size, 0, none⟩), .pointer (some ⟨w.heap.size + 1, 0, none⟩)]) ∧
    (w.alloc (.cells #[.pointer none] 52)).alloc (.cells #[.int .i64 x] 3) = w' := by
  go_enter Try.func153, Try.ntmps153
  go_wp2_with fail
  go_ret
  exact ⟨rfl, rfl⟩
set_option maxRecDepth 100000 in
theorem steps_iter_nil {W : World} (x : Int) (fb pb L K : Nat) (Fr : Nat → Prop) (cf : W.cell? ⟨fb, 0, none⟩ = some (.pointer none)) (cp : W.cell? ⟨pb, 0, none⟩ = some (.int .i64 x)) :
    IterGivesY Try.prog 162 #[.pointer (some ⟨fb, 0, none⟩), .pointer (some ⟨pb, 0, none⟩)] (fun x : Nat × Bool => #[.int .i64 (x.1 : Int), .bool x.2]) (fun xs => xs = []) Fr L K W := by
  intro J own0 hJ hlt hY h0 hb0
  show Calls Try.prog 162 #[.func (.yield L) #[] #[], .pointer (some ⟨fb, 0, none⟩), .pointer (some ⟨pb, 0, none⟩)] W _
  have H0 := Lib.hid h0
  have K0 := Lib.hid (nof_Is x (w := W) (.inl rfl))
  have HC1 := Lib.hid cf
  have HC2 := Lib.hid cp
  clear hJ hlt hY h0 hb0
  go_enter Try.func162, Try.ntmps162
  go_wp2
  refine wp_scope_ahead 0 (by rfl) ?_
  go_wp2_with fail
  refine K0.out.mono ?_
  rintro e w1 ⟨rfl, rfl⟩
  clear K0
  go_wp2_with fail
  simp only [Exit.jump]
  refine bodyPost_ret (results_none rfl _ _ _) rfl ?_
  exact ⟨⟨_, rfl⟩, [], rfl, own0, H0.out⟩
set_option maxRecDepth 100000 in
set_option maxHeartbeats 8000000 in
theorem walk_which_nil (x : Int) (come : Bool) (w : World) :
    Calls Try.prog 133 #[.pointer none, .int .i64 x, .bool come] w fun e w' => e = .returned (.slice none 0 0) ∧ Below w.heap.size w w' := by
  refine callsIn_wide (n := 3) |>.1 ?_
  refine callsIn_of_wp_marks Try.func133 rfl trivial ?_ rfl
  simp only [Try.ntmps133, List.size_toArray, List.length_cons, List.length_nil, Nat.reduceAdd, Nat.reduceSub, Array.replicate_succ, Array.replicate_zero, List.push_toArray, List.append_toArray, List.nil_append, List.cons_append]
  refine wpIn_wide.2 ?_
  go_wp2_with fail
  refine (walk_steps_nil x _).mono ?_
  rintro e w2 ⟨rfl, hw2⟩
  go_wp2_with fail
  obtain ⟨s, hs⟩ : ∃ s, w.heap.size = s := ⟨_, rfl⟩
  have hs2 : w2.heap.size = s + 4 := by rw [← hw2, ← hs]; simp
  have hB2 : Below w.heap.size w w2 := by rw [← hw2]; exact (by repeat (first | exact Below.refl _ _ | assumption | refine bel_drew ?_ | refine bel_drewN ?_ _ | refine bel_alloc ?_ _ | refine bel_set ?_ (by first | (dsimp only; omega) | (simp; done) | (simp; omega)) _ | refine bel_trans ?_ (by assumption)))
  have co : w2.cell? ⟨s + 1, 0, none⟩ = some (.slice none 0 0) := by rw [← hw2, ← hs]; simp [go_sem]
  have cf : w2.cell? ⟨s + 2, 0, none⟩ = some (.pointer none) := by rw [← hw2, ← hs]; simp [go_sem]
  have cp : w2.cell? ⟨s + 3, 0, none⟩ = some (.int .i64 x) := by rw [← hw2, ← hs]; simp [go_sem]
  rw [hs]
  have hs0 := hs
  clear hw2 hs
  refine (wpIn_wide (n := 3)).1 ?_
  refine range_plainY (gf := 162) (lb := #[.pointer (some ⟨s + 1 + 1, 0, none⟩), .pointer (some ⟨s + 1 + 1 + 1, 0, none⟩)]) (encs := fun x : Nat × Bool => #[.int .i64 (x.1 : Int), .bool x.2]) rfl (fun args w => by simp [go_sem]) (fun x => rfl)
    (fun xs own X => X.cell? ⟨s + 1, 0, none⟩ = some (.slice none 0 0) ∧ Below s w X ∧ own (s + 1) ∧ (∀ k, own k → s ≤ k ∧ k < X.heap.size)) (fun xs => xs = []) (fun k => k = s + 1) (fun k => s ≤ k) 0 ?_ ?_ ?_ ?_ ?_ ?_ ?_ ?_
    (fun y => { tmps := #[.pointer none, .int .i64 x, .bool come, undef, undef, .pointer (some ⟨s, 0, none⟩), .slice none 0 0, .pointer (some ⟨s + 1, 0, none⟩), .int .i64 (y.1 : Int), .bool y.2, .pointer none, .int .i64 x, .func (.func 162) #[] #[.pointer (some ⟨s + 1 + 1, 0, none⟩), .pointer (some ⟨s + 1 + 1 + 1, 0, none⟩)], .int .i64 (y.1 : Int), .bool y.2, undef, undef, undef, undef, undef, undef, undef, undef], defers := [] }) ?_ ?_ ?_
  · rintro xs ow A B ⟨h1, h2, h3, h4⟩ hc
    have hb := hc.block (s + 1) (h4 _ h3).2 (fun hh => hh.1 h3)
    exact ⟨(World.cell?_of_block (a := ⟨s + 1, 0, none⟩) hb).trans h1, h2.trans (hc.below (by have := h2.size; omega) (fun k hk => by omega)), h3, fun k hk => ⟨(h4 k hk).1, Nat.lt_of_lt_of_le (h4 k hk).2 hc.size⟩⟩
  · rintro xs ow A ⟨_, _, _, h4⟩ k hk
    exact (h4 k hk).2
  · rintro k rfl; omega
  · rw [hs2]; omega
  · rw [hs2]; omega
  · rintro k rfl; omega
  · intro o
    have bW : Below w2.heap.size w2 ((w2.alloc (.deferred (some []))).alloc o) := (by repeat (first | exact Below.refl _ _ | assumption | refine bel_drew ?_ | refine bel_drewN ?_ _ | refine bel_alloc ?_ _ | refine bel_set ?_ (by first | (dsimp only; omega) | (simp; done) | (simp; omega)) _ | refine bel_trans ?_ (by assumption)))
    have sW := bW.size
    exact ⟨(bW.cell (p := ⟨s + 1, 0, none⟩) (by dsimp only; omega)).trans co, (hB2.mono (Nat.le_of_eq hs0.symm)).trans (bW.mono (by omega)), rfl, fun k hk => by omega⟩
  · intro o
    obtain ⟨W, hW⟩ : ∃ W, (w2.alloc (.deferred (some []))).alloc o = W := ⟨_, rfl⟩
    rw [hW]
    have hbW : Below w2.heap.size w2 W := by rw [← hW]; exact (by repeat (first | exact Below.refl _ _ | assumption | refine bel_drew ?_ | refine bel_drewN ?_ _ | refine bel_alloc ?_ _ | refine bel_set ?_ (by first | (dsimp only; omega) | (simp; done) | (simp; omega)) _ | refine bel_trans ?_ (by assumption)))
    exact steps_iter_nil x (s + 2) (s + 3) (w2.heap.size + 1) 0 _ ((hbW.cell (p := ⟨s + 2, 0, none⟩) (by dsimp only; omega)).trans cf) ((hbW.cell (p := ⟨s + 3, 0, none⟩) (by dsimp only; omega)).trans cp)
  · intro L m y W K hK
    gi_wp2
    exact hK
  · rintro L m pre y ow X hI hn0 hn1 hlt hpl
    exact absurd hpl (by omega)
  · rintro xs ow X rfl ⟨h1, h2, h3, h4⟩ hd
    rw [hs2] at hd ⊢
    have hfin : Hid (Below w.heap.size w (X.putObj (s + 4) (.deferred none))) := Lib.hid (by rw [hs0]; exact h2.trans ((chg_put (own := fun k => k = s + 4) (A := X) rfl).below (by have := h2.size; omega) (fun k hk => by omega)))
    clear h2 h3 h4 co cf cp hB2
    go_wp2_with fail
    refine ⟨by simp, .inl ⟨_, _, rfl, run_takeDeferred hd, ?_⟩⟩
    exact ⟨_, by simp [results, Try.results133, go_sem], rfl, hfin.out⟩

theorem walk_Pre_nil (x : Int) (w : World) : Calls Try.prog 72 #[.pointer none, .int .i64 x] w fun e w' => e = .returned (.slice none 0 0) ∧ Below w.heap.size w w' := by
  have K := Lib.hid (walk_which_nil x true w)
  go_enter Try.func72, Try.ntmps72
  go_wp2_with fail
  refine K.out.mono ?_
  rintro e w1 ⟨rfl, b1⟩
  clear K
  go_wp2_with fail
  go_ret
  exact ⟨rfl, b1⟩

theorem walk_Post_nil (x : Int) (w : World) : Calls Try.prog 74 #[.pointer none, .int .i64 x] w fun e w' => e = .returned (.slice none 0 0) ∧ Below w.heap.size w w' := by
  have K := Lib.hid (walk_which_nil x false w)
  go_enter Try.func74, Try.ntmps74
  go_wp2_with fail
  refine K.out.mono ?_
  rintro e w1 ⟨rfl, b1⟩
  clear K
  go_wp2_with fail
  go_ret
  exact ⟨rfl, b1⟩

theorem walk_Size_nil (x : Int) (w : World) : Calls Try.prog 76 #[.pointer none, .int .i64 x] w fun e w' => e = .returned (.int .i64 0) ∧ Below w.heap.size w w' := by
  have K := Lib.hid (walk_Pre_nil x w)
  go_enter Try.func76, Try.ntmps76
  go_wp2_with fail
  refine K.out.mono ?_
  rintro e w1 ⟨rfl, b1⟩
  clear K
  go_wp2_with fail
  go_ret
  exact ⟨rfl, b1⟩
theorem walk_up_nil (x : Int) (w : World) : Calls Try.prog 136 #[.pointer none, .int .i64 x] w fun e w' => e = .returned (.slice none 0 0) ∧ w = w' := by
  have K := Lib.hid (nof_Is x (w := w) (.inl rfl))
  go_enter Try.func136, Try.ntmps136
  go_wp2_with fail
  refine wp_loop_rounds 1 ?_
  rw [rounds_succ]
  go_wp2_with fail
  refine K.out.mono ?_
  rintro e w1 ⟨rfl, rfl⟩
  clear K
  go_wp2_with fail
  go_ret
  exact ⟨rfl, rfl⟩
theorem walk_Depth_nil (x : Int) (w : World) : Calls Try.prog 77 #[.pointer none, .int .i64 x] w fun e w' => e = .returned (.int .i64 (-1)) ∧ w = w' := by
  have K := Lib.hid (walk_up_nil x w)
  go_enter Try.func77, Try.ntmps77
  go_wp2_with fail
  refine K.out.mono ?_
  rintro e w1 ⟨rfl, rfl⟩
  clear K
  go_wp2_with fail
  go_ret
  exact ⟨rfl, rfl⟩
theorem walk_Top_nil (x : Int) (w : World) : Calls Try.prog 79 #[.pointer none, .int .i64 x] w fun e w' => e = .returned (.int .i64 (-1)) ∧ w = w' := by
  have K := Lib.hid (walk_up_nil x w)
  go_enter Try.func79, Try.ntmps79
  go_wp2_with fail
  refine K.out.mono ?_
  rintro e w1 ⟨rfl, rfl⟩
  clear K
  go_wp2_with fail
  go_ret
  exact ⟨rfl, rfl⟩
theorem walk_Within_nil (x t : Int) (w : World) : Calls Try.prog 81 #[.pointer none, .int .i64 x, .int .i64 t] w fun e w' => e = .returned (.bool false) ∧ Below w.heap.size w w' := by
  have K := Lib.hid (walk_up_nil x w)
  have K2 := Lib.hid (slices_ContainsI 0 t (w := w) (IntsAt.nil (A := none)))
  go_enter Try.func81, Try.ntmps81
  go_wp2_with fail
  refine K.out.mono ?_
  rintro e w1 ⟨rfl, rfl⟩
  clear K
  go_wp2_with fail
  refine K2.out.mono ?_
  rintro e w2 ⟨rfl, b2⟩
  go_wp2_with fail
  go_ret
  exact ⟨ret_bool (by simp), b2⟩
end Go.Proofs.Ytdhcmnbajkpjiaa
/-
  The walk of WalkOrders.
-/
namespace Go.Proofs.Ytdhcmnbajkpjiaa
open Go.RowKit
open Go.Maps
set_option linter.unusedVariables false
set_option linter.unusedSimpArgs false
attribute [local go_sem] drewN_alloc drewN_setCell

variable {w0 w w' : World} {own : Nat → Prop} {Fb n : Nat} {S : FSt} {N : List Nat} {up : List Int}
theorem in_ups (hO : Ord N up) (x t : Int) : decide (t ∈ ints (upsV N up x)) = inW N up x t := by
  unfold inW
  refine decide_eq_decide.2 ⟨fun h => ?_, fun h => ?_⟩
  · have h2 := in_nat.1 h
    by_cases hx : 0 ≤ x ∧ x.toNat ∈ N
    · have h3 := h2.2
      unfold upsV at h3
      rw [if_pos hx] at h3
      have ht := PW.ups_in hO.is hx.2 _ h3
      refine ⟨hx, ?_⟩
      rw [preW_yes ⟨h2.1, ht⟩]
      exact in_nat.2 ⟨hx.1, (PW.within hO.is hx.2 ht).2 h3⟩
    · have h3 := h2.2
      rw [upsV_no hx] at h3; simp at h3
  · obtain ⟨hx, h1⟩ := h
    have h2 := in_nat.1 h1
    by_cases ht : 0 ≤ t ∧ t.toNat ∈ N
    · have h3 := h2.2
      rw [preW_yes ht] at h3
      refine in_nat.2 ⟨ht.1, ?_⟩
      unfold upsV
      rw [if_pos hx]
      exact (PW.within hO.is hx.2 ht.2).1 h3
    · have h3 := h2.2
      rw [preW_no ht] at h3; simp at h3
set_option maxRecDepth 100000 in
theorem law38_WalkOrders_long (A : Option Addr) (m c : Nat) (a b : Int) (w : World) (h : (60 : Int) < (m : Int)) :
    Calls Try.prog 12 #[.slice A m c, .agg #[.int .i64 a, .int .i64 b]] w fun e w' => e = .returned (.bool true) ∧ Below w.heap.size w w' := by
  go_enter Try.func12, Try.ntmps12
  go_wp2_with fail
  refine (law38_works _).mono ?_
  rintro e w1 ⟨rfl, h1⟩
  have hb := Lib.hid (bel_trans (bel_alloc (Below.refl w.heap.size w) (.cells #[.int .i64 a, .int .i64 b] 32)) h1)
  clear h1
  go_wp2_with fail
  go_ret
  exact ⟨rfl, hb.out⟩
set_option maxRecDepth 100000 in
set_option maxHeartbeats 16000000 in
theorem law38_WalkOrders (A : Option Addr) (m c : Nat) (xs : List Int) (a b : Int) (w : World) (hA : BytesAt w A m xs) :
    Calls Try.prog 12 #[.slice A m c, .agg #[.int .i64 a, .int .i64 b]] w fun e w' => e = .returned (.bool true) ∧ Below w.heap.size w w' := by
  by_cases hm : (60 : Int) < (m : Int)
  · exact law38_WalkOrders_long A m c a b w hm
  have hm2 : (m : Int) ≤ 60 := by omega
  have KG := fun W (hW : Below w.heap.size w W) => law38_grown c xs W (hA.keep hW) (by omega)
  replace KG := Lib.hid KG
  obtain ⟨w5, hw5⟩ : ∃ w5, w.alloc (.cells #[.int .i64 a, .int .i64 b] 32) = w5 := ⟨_, rfl⟩
  have T5 : RowAt w5 w.heap.size 32 [.int .i64 a, .int .i64 b] := by rw [← hw5]; exact RowAt.new w 32 _
  have D5 : Below w.heap.size w w5 := by rw [← hw5]; exact (by repeat (first | exact Below.refl _ _ | assumption | refine bel_drew ?_ | refine bel_drewN ?_ _ | refine bel_alloc ?_ _ | refine bel_set ?_ (by first | (dsimp only; omega) | (simp; done) | (simp; omega)) _ | refine bel_trans ?_ (by assumption)))
  have HW5 := Lib.hid hw5
  have D5 := Lib.hid D5
  have T5 := Lib.hid T5
  clear hA hm hw5
  go_enter Try.func12, Try.ntmps12
  go_upto_region 1 with (fail)
  rw [HW5.out]
  go_wp2_with fail
  refine (KG.out _ D5.out).mono ?_
  rintro e w1 ⟨Fb, own, V, S, N, rfl, FO1, RI1, hO⟩
  have HO := Lib.hid hO
  have t1 := T5.out.keep FO1.below
  obtain ⟨k, hk⟩ : ∃ k, N.length = k := ⟨_, rfl⟩
  obtain ⟨Ao, co, Ag, cg, Ac, mc, cc, f, An, cn, Ap, cp, rfl⟩ := RI1.form hk
  have HKN := Lib.hid hk
  clear hk hO
  go_upto_region 4 with (fail)
  refine region_name ?_
  rintro W7 hW7
  obtain ⟨rb, hrb⟩ : ∃ rb, w1.heap.size = rb := ⟨_, rfl⟩
  rw [hrb]
  have b7 : Below w1.heap.size w1 W7 := by rw [hW7]; exact (by repeat (first | exact Below.refl _ _ | assumption | refine bel_drew ?_ | refine bel_drewN ?_ _ | refine bel_alloc ?_ _ | refine bel_set ?_ (by first | (dsimp only; omega) | (simp; done) | (simp; omega)) _ | refine bel_trans ?_ (by assumption)))
  have r7 : RowAt W7 rb 58 [.slice Ao 30 co, .slice Ag 30 cg, .slice Ac mc cc, .int .i64 f, .slice An k cn, .slice Ap k cp] := by rw [hW7, ← hrb]; exact RowAt.new w1 58 [.slice Ao 30 co, .slice Ag 30 cg, .slice Ac mc cc, .int .i64 f, .slice An k cn, .slice Ap k cp]
  have t7 := t1.keep b7
  have FO7 := Lib.hid (FO1.keep b7)
  have RI7 := Lib.hid (RI1.keep b7)
  have hN := Lib.hid (RI7.out.2.le FO7.out.fi)
  have e0 : W7.cell? ⟨w.heap.size, 0, none⟩ = some (.int .i64 a) := by rw [t7.cell]; rfl
  have e1 : W7.cell? ⟨w.heap.size, 1, none⟩ = some (.int .i64 b) := by rw [t7.cell]; rfl
  have BW := Lib.hid (bel_trans D5.out FO7.out.below)
  clear hW7 b7 t1 FO1 RI1 hrb
  go_upto_region 5 with (go_region)
  have lt7 := r7.lt
  have hS : Hid (∀ W : World, Below W7.heap.size W7 W → (fun W : World => W.cell? ⟨rb, 0, none⟩ = some (.slice Ao 30 co) ∧ W.cell? ⟨rb, 1, none⟩ = some (.slice Ag 30 cg) ∧ W.cell? ⟨rb, 2, none⟩ = some (.slice Ac mc cc) ∧ W.cell? ⟨rb, 3, none⟩ = some (.int .i64 f) ∧ W.cell? ⟨rb, 4, none⟩ = some (.slice An k cn) ∧ W.cell? ⟨rb, 5, none⟩ = some (.slice Ap k cp)) W) := Lib.hid (fun W hW => ⟨(hW.cell (p := ⟨rb, 0, none⟩) lt7).trans ((r7.cell 0).trans rfl), (hW.cell (p := ⟨rb, 1, none⟩) lt7).trans ((r7.cell 1).trans rfl), (hW.cell (p := ⟨rb, 2, none⟩) lt7).trans ((r7.cell 2).trans rfl), (hW.cell (p := ⟨rb, 3, none⟩) lt7).trans ((r7.cell 3).trans rfl), (hW.cell (p := ⟨rb, 4, none⟩) lt7).trans ((r7.cell 4).trans rfl), (hW.cell (p := ⟨rb, 5, none⟩) lt7).trans ((r7.cell 5).trans rfl)⟩)
  have hKP : Hid (∀ W, Below W7.heap.size W7 W → Calls Try.prog 72 #[.pointer (some ⟨Fb, 0, none⟩), .int .i64 a] W (GivesInts W (ints (preW N S.up a)))) := Lib.hid (fun W hW => walk_Pre a HO.out RI7.out.2 (FO7.out.keep hW))
  have hKRP : Hid (∀ W, Below W7.heap.size W7 W → Calls Try.prog 73 #[.agg #[.slice Ao 30 co, .slice Ag 30 cg, .slice Ac mc cc, .int .i64 f, .slice An k cn, .slice Ap k cp], .int .i64 a] W (GivesInts W (ints (preW N S.up a)))) := Lib.hid (fun W hW => ref38_Pre a HO.out hN.out (RI7.out.1.keep hW))
  have hKO : Hid (∀ W, Below W7.heap.size W7 W → Calls Try.prog 74 #[.pointer (some ⟨Fb, 0, none⟩), .int .i64 a] W (GivesInts W (ints (postW N S.up a)))) := Lib.hid (fun W hW => walk_Post a HO.out RI7.out.2 (FO7.out.keep hW))
  have hKRO : Hid (∀ W, Below W7.heap.size W7 W → Calls Try.prog 75 #[.agg #[.slice Ao 30 co, .slice Ag 30 cg, .slice Ac mc cc, .int .i64 f, .slice An k cn, .slice Ap k cp], .int .i64 a] W (GivesInts W (ints (postW N S.up a)))) := Lib.hid (fun W hW => ref38_Post a HO.out hN.out (RI7.out.1.keep hW))
  have hKS : Hid (∀ W, Below W7.heap.size W7 W → Calls Try.prog 76 #[.pointer (some ⟨Fb, 0, none⟩), .int .i64 a] W fun e w' => e = .returned (.int .i64 ((preW N S.up a).length : Nat)) ∧ Below W.heap.size W w') := Lib.hid (fun W hW => walk_Size a HO.out RI7.out.2 (FO7.out.keep hW))
  have hKD : Hid (∀ W, Below W7.heap.size W7 W → Calls Try.prog 77 #[.pointer (some ⟨Fb, 0, none⟩), .int .i64 a] W fun e w' => e = .returned (.int .i64 (depthV N S.up a)) ∧ Below W.heap.size W w') := Lib.hid (fun W hW => walk_Depth a HO.out RI7.out.2 (FO7.out.keep hW))
  have hKRD : Hid (∀ W, Below W7.heap.size W7 W → Calls Try.prog 78 #[.agg #[.slice Ao 30 co, .slice Ag 30 cg, .slice Ac mc cc, .int .i64 f, .slice An k cn, .slice Ap k cp], .int .i64 a] W fun e w' => e = .returned (.int .i64 (depthV N S.up a)) ∧ Below W.heap.size W w') := Lib.hid (fun W hW => ref38_Depth a HO.out hN.out (RI7.out.1.keep hW))
  have hKT : Hid (∀ W, Below W7.heap.size W7 W → Calls Try.prog 79 #[.pointer (some ⟨Fb, 0, none⟩), .int .i64 a] W fun e w' => e = .returned (.int .i64 (topV N S.up a)) ∧ Below W.heap.size W w') := Lib.hid (fun W hW => walk_Top a HO.out RI7.out.2 (FO7.out.keep hW))
  have hKRT : Hid (∀ W, Below W7.heap.size W7 W → Calls Try.prog 80 #[.agg #[.slice Ao 30 co, .slice Ag 30 cg, .slice Ac mc cc, .int .i64 f, .slice An k cn, .slice Ap k cp], .int .i64 a] W fun e w' => e = .returned (.int .i64 (topV N S.up a)) ∧ Below W.heap.size W w') := Lib.hid (fun W hW => ref38_Top a HO.out hN.out (RI7.out.1.keep hW))
  have hKJ : Hid (∀ W, Below W7.heap.size W7 W → Calls Try.prog 81 #[.pointer (some ⟨Fb, 0, none⟩), .int .i64 a, .int .i64 b] W fun e w' => e = .returned (.bool (inW N S.up a b)) ∧ Below W.heap.size W w') := Lib.hid (fun W hW => by
    have := walk_Within a b HO.out RI7.out.2 (FO7.out.keep hW)
    rwa [in_ups HO.out] at this)
  have hKRW : Hid (∀ W, Below W7.heap.size W7 W → Calls Try.prog 82 #[.agg #[.slice Ao 30 co, .slice Ag 30 cg, .slice Ac mc cc, .int .i64 f, .slice An k cn, .slice Ap k cp], .int .i64 a, .int .i64 b] W fun e w' => e = .returned (.bool (inW N S.up a b)) ∧ Below W.heap.size W w') := Lib.hid (fun W hW => ref38_Within a b HO.out hN.out (RI7.out.1.keep hW))
  obtain ⟨dv, hdv⟩ : ∃ d, depthV N S.up a = d := ⟨_, rfl⟩
  obtain ⟨tv, htv⟩ : ∃ d, topV N S.up a = d := ⟨_, rfl⟩
  obtain ⟨wv, hwv⟩ : ∃ d, inW N S.up a b = d := ⟨_, rfl⟩
  obtain ⟨PL, hPL⟩ : ∃ d, preW N S.up a = d := ⟨_, rfl⟩
  obtain ⟨QL, hQL⟩ : ∃ d, postW N S.up a = d := ⟨_, rfl⟩
  rw [hPL] at hKP hKRP hKS
  rw [hQL] at hKO hKRO
  rw [hdv] at hKD hKRD
  rw [htv] at hKT hKRT
  rw [hwv] at hKJ hKRW
  obtain ⟨pl, hpl⟩ : ∃ d, PL.length = d := ⟨_, rfl⟩
  have HPL := Lib.hid hpl
  rw [hpl] at hKS
  clear hdv htv hwv hPL hQL hpl lt7 r7 t7 e0 e1
  refine wp_region_held_drew (S := (fun W : World => W.cell? ⟨rb, 0, none⟩ = some (.slice Ao 30 co) ∧ W.cell? ⟨rb, 1, none⟩ = some (.slice Ag 30 cg) ∧ W.cell? ⟨rb, 2, none⟩ = some (.slice Ac mc cc) ∧ W.cell? ⟨rb, 3, none⟩ = some (.int .i64 f) ∧ W.cell? ⟨rb, 4, none⟩ = some (.slice An k cn) ∧ W.cell? ⟨rb, 5, none⟩ = some (.slice Ap k cp))) (by kernel_rfl) ?_ (fun hHeld => ?_)
  focus ((try dsimp only); first | exact q | exact hS.out _ (by repeat (first | exact Below.refl _ _ | assumption | refine bel_drew ?_ | refine bel_drewN ?_ _ | refine bel_alloc ?_ _ | refine bel_trans ?_ (by assumption))))
  refine tk_yes 0 (v := ?_) rfl (by kernel_rfl) (by kernel_rfl) (by kernel_rfl) (fun _ _ _ h => h) (by kernel_rfl) (by assumption) ?_ ?_; rotate_left; (focus (intro w hSw; (try dsimp only at hSw); go_simp; (first | done | (with_reducible rfl)))); (try simp only [Act.put, List.setIfInBounds_toArray, List.set_cons_zero, List.set_cons_succ])
  refine tk_yes 1 (v := ?_) rfl (by kernel_rfl) (by kernel_rfl) (by kernel_rfl) (fun _ _ _ h => h) (by kernel_rfl) (by assumption) ?_ ?_; rotate_left; (focus (intro w hSw; (try dsimp only at hSw); go_simp; (first | done | (with_reducible rfl)))); (try simp only [Act.put, List.setIfInBounds_toArray, List.set_cons_zero, List.set_cons_succ])
  refine tk_yes 3 (v := ?_) rfl (by kernel_rfl) (by kernel_rfl) (by kernel_rfl) (fun _ _ _ h => h) (by kernel_rfl) (by assumption) ?_ ?_; rotate_left; (focus (intro w hSw; (try dsimp only at hSw); go_simp; (first | done | (with_reducible rfl)))); (try simp only [Act.put, List.setIfInBounds_toArray, List.set_cons_zero, List.set_cons_succ])
  refine tk_yes 4 (v := ?_) rfl (by kernel_rfl) (by kernel_rfl) (by kernel_rfl) (fun _ _ _ h => h) (by kernel_rfl) (by assumption) ?_ ?_; rotate_left; (focus (intro w hSw; (try dsimp only at hSw); go_simp; (first | done | (with_reducible rfl)))); (try simp only [Act.put, List.setIfInBounds_toArray, List.set_cons_zero, List.set_cons_succ])
  refine tk_call 2 rfl (by kernel_rfl) (by kernel_rfl) (fun KW hKW => ?_); go_simp; go_at_call 72; refine (hKP.out _ (by repeat (first | exact Below.refl _ _ | assumption | refine bel_drew ?_ | refine bel_drewN ?_ _ | refine bel_alloc ?_ _ | refine bel_trans ?_ (by assumption)))).mono ?_; rintro e u2 ⟨A2, n2, c2, rfl, i2, hb2⟩; have B2 := bel_to (W0 := W7) (by repeat (first | exact Below.refl _ _ | assumption | refine bel_drew ?_ | refine bel_drewN ?_ _ | refine bel_alloc ?_ _ | refine bel_trans ?_ (by assumption))) hb2; have I2 := Lib.hid i2.1; have q := hS.out _ B2; clear i2; refine hKW.out _ _ ?_ (fun hHeld => ?_); (focus ((try dsimp only); first | exact q | exact hS.out _ (by repeat (first | exact Below.refl _ _ | assumption | refine bel_drew ?_ | refine bel_drewN ?_ _ | refine bel_alloc ?_ _ | refine bel_trans ?_ (by assumption))))); clear hKW KW; (try simp only [Act.put, List.setIfInBounds_toArray, List.set_cons_zero, List.set_cons_succ])
  refine tk_call 5 rfl (by kernel_rfl) (by kernel_rfl) (fun KW hKW => ?_); go_simp; go_at_call 73; refine (hKRP.out _ (by repeat (first | exact Below.refl _ _ | assumption | refine bel_drew ?_ | refine bel_drewN ?_ _ | refine bel_alloc ?_ _ | refine bel_trans ?_ (by assumption)))).mono ?_; rintro e u5 ⟨A5, n5, c5, rfl, i5, hb5⟩; have B5 := bel_to (W0 := W7) (by repeat (first | exact Below.refl _ _ | assumption | refine bel_drew ?_ | refine bel_drewN ?_ _ | refine bel_alloc ?_ _ | refine bel_trans ?_ (by assumption))) hb5; have I5 := Lib.hid i5.1; have q := hS.out _ B5; clear i5; refine hKW.out _ _ ?_ (fun hHeld => ?_); (focus ((try dsimp only); first | exact q | exact hS.out _ (by repeat (first | exact Below.refl _ _ | assumption | refine bel_drew ?_ | refine bel_drewN ?_ _ | refine bel_alloc ?_ _ | refine bel_trans ?_ (by assumption))))); clear hKW KW; (try simp only [Act.put, List.setIfInBounds_toArray, List.set_cons_zero, List.set_cons_succ])
  refine tk_call 6 rfl (by kernel_rfl) (by kernel_rfl) (fun KW hKW => ?_); go_simp; go_at_call 45; refine (base_SameInts c2 c5 (I2.out.keep hb5) I5.out).mono ?_; rw [decide_eq_true rfl]; rintro e u6 ⟨rfl, hb6⟩; have B6 := bel_to (W0 := W7) (by repeat (first | exact Below.refl _ _ | assumption | refine bel_drew ?_ | refine bel_drewN ?_ _ | refine bel_alloc ?_ _ | refine bel_trans ?_ (by assumption))) hb6; have q := hS.out _ B6; clear hb2 hb5 hb6 I2 I5; refine hKW.out _ _ ?_ (fun hHeld => ?_); (focus ((try dsimp only); first | exact q | exact hS.out _ (by repeat (first | exact Below.refl _ _ | assumption | refine bel_drew ?_ | refine bel_drewN ?_ _ | refine bel_alloc ?_ _ | refine bel_trans ?_ (by assumption))))); clear hKW KW; (try simp only [Act.put, List.setIfInBounds_toArray, List.set_cons_zero, List.set_cons_succ])
  refine tk_yes 7 (v := ?_) rfl (by kernel_rfl) (by kernel_rfl) (by kernel_rfl) (fun _ _ _ h => h) (by kernel_rfl) (by assumption) ?_ ?_; rotate_left; (focus (intro w hSw; (try dsimp only at hSw); go_simp; (first | done | (with_reducible rfl)))); (try simp only [Act.put, List.setIfInBounds_toArray, List.set_cons_zero, List.set_cons_succ])
  refine tk_yes 8 (v := ?_) rfl (by kernel_rfl) (by kernel_rfl) (by kernel_rfl) (fun _ _ _ h => h) (by kernel_rfl) (by assumption) ?_ ?_; rotate_left; (focus (intro w hSw; (try dsimp only at hSw); go_simp; (first | done | (with_reducible rfl)))); (try simp only [Act.put, List.setIfInBounds_toArray, List.set_cons_zero, List.set_cons_succ])
  refine tk_yes 9 (v := ?_) rfl (by kernel_rfl) (by kernel_rfl) (by kernel_rfl) (fun _ _ _ h => h) (by kernel_rfl) (by assumption) ?_ ?_; rotate_left; (focus (intro w hSw; (try dsimp only at hSw); go_simp; (first | done | (with_reducible rfl)))); (try simp only [Act.put, List.setIfInBounds_toArray, List.set_cons_zero, List.set_cons_succ])
  refine tk_yes 11 (v := ?_) rfl (by kernel_rfl) (by kernel_rfl) (by kernel_rfl) (fun _ _ _ h => h) (by kernel_rfl) (by assumption) ?_ ?_; rotate_left; (focus (intro w hSw; (try dsimp only at hSw); go_simp; (first | done | (with_reducible rfl)))); (try simp only [Act.put, List.setIfInBounds_toArray, List.set_cons_zero, List.set_cons_succ])
  refine tk_yes 12 (v := ?_) rfl (by kernel_rfl) (by kernel_rfl) (by kernel_rfl) (fun _ _ _ h => h) (by kernel_rfl) (by assumption) ?_ ?_; rotate_left; (focus (intro w hSw; (try dsimp only at hSw); go_simp; (first | done | (with_reducible rfl)))); (try simp only [Act.put, List.setIfInBounds_toArray, List.set_cons_zero, List.set_cons_succ])
  refine tk_call 10 rfl (by kernel_rfl) (by kernel_rfl) (fun KW hKW => ?_); go_simp; go_at_call 74; refine (hKO.out _ (by repeat (first | exact Below.refl _ _ | assumption | refine bel_drew ?_ | refine bel_drewN ?_ _ | refine bel_alloc ?_ _ | refine bel_trans ?_ (by assumption)))).mono ?_; rintro e u10 ⟨A10, n10, c10, rfl, i10, hb10⟩; have B10 := bel_to (W0 := W7) (by repeat (first | exact Below.refl _ _ | assumption | refine bel_drew ?_ | refine bel_drewN ?_ _ | refine bel_alloc ?_ _ | refine bel_trans ?_ (by assumption))) hb10; have I10 := Lib.hid i10.1; have q := hS.out _ B10; clear i10; refine hKW.out _ _ ?_ (fun hHeld => ?_); (focus ((try dsimp only); first | exact q | exact hS.out _ (by repeat (first | exact Below.refl _ _ | assumption | refine bel_drew ?_ | refine bel_drewN ?_ _ | refine bel_alloc ?_ _ | refine bel_trans ?_ (by assumption))))); clear hKW KW; (try simp only [Act.put, List.setIfInBounds_toArray, List.set_cons_zero, List.set_cons_succ])
  refine tk_call 13 rfl (by kernel_rfl) (by kernel_rfl) (fun KW hKW => ?_); go_simp; go_at_call 75; refine (hKRO.out _ (by repeat (first | exact Below.refl _ _ | assumption | refine bel_drew ?_ | refine bel_drewN ?_ _ | refine bel_alloc ?_ _ | refine bel_trans ?_ (by assumption)))).mono ?_; rintro e u13 ⟨A13, n13, c13, rfl, i13, hb13⟩; have B13 := bel_to (W0 := W7) (by repeat (first | exact Below.refl _ _ | assumption | refine bel_drew ?_ | refine bel_drewN ?_ _ | refine bel_alloc ?_ _ | refine bel_trans ?_ (by assumption))) hb13; have I13 := Lib.hid i13.1; have q := hS.out _ B13; clear i13; refine hKW.out _ _ ?_ (fun hHeld => ?_); (focus ((try dsimp only); first | exact q | exact hS.out _ (by repeat (first | exact Below.refl _ _ | assumption | refine bel_drew ?_ | refine bel_drewN ?_ _ | refine bel_alloc ?_ _ | refine bel_trans ?_ (by assumption))))); clear hKW KW; (try simp only [Act.put, List.setIfInBounds_toArray, List.set_cons_zero, List.set_cons_succ])
  refine tk_call 14 rfl (by kernel_rfl) (by kernel_rfl) (fun KW hKW => ?_); go_simp; go_at_call 45; refine (base_SameInts c10 c13 (I10.out.keep hb13) I13.out).mono ?_; rw [decide_eq_true rfl]; rintro e u14 ⟨rfl, hb14⟩; have B14 := bel_to (W0 := W7) (by repeat (first | exact Below.refl _ _ | assumption | refine bel_drew ?_ | refine bel_drewN ?_ _ | refine bel_alloc ?_ _ | refine bel_trans ?_ (by assumption))) hb14; have q := hS.out _ B14; clear hb10 hb13 hb14 I10 I13; refine hKW.out _ _ ?_ (fun hHeld => ?_); (focus ((try dsimp only); first | exact q | exact hS.out _ (by repeat (first | exact Below.refl _ _ | assumption | refine bel_drew ?_ | refine bel_drewN ?_ _ | refine bel_alloc ?_ _ | refine bel_trans ?_ (by assumption))))); clear hKW KW; (try simp only [Act.put, List.setIfInBounds_toArray, List.set_cons_zero, List.set_cons_succ])
  refine tk_yes 15 (v := ?_) rfl (by kernel_rfl) (by kernel_rfl) (by kernel_rfl) (fun _ _ _ h => h) (by kernel_rfl) (by assumption) ?_ ?_; rotate_left; (focus (intro w hSw; (try dsimp only at hSw); go_simp; (first | done | (with_reducible rfl)))); (try simp only [Act.put, List.setIfInBounds_toArray, List.set_cons_zero, List.set_cons_succ])
  refine tk_yes 16 (v := ?_) rfl (by kernel_rfl) (by kernel_rfl) (by kernel_rfl) (fun _ _ _ h => h) (by kernel_rfl) (by assumption) ?_ ?_; rotate_left; (focus (intro w hSw; (try dsimp only at hSw); go_simp; (first | done | (with_reducible rfl)))); (try simp only [Act.put, List.setIfInBounds_toArray, List.set_cons_zero, List.set_cons_succ])
  refine tk_yes 17 (v := ?_) rfl (by kernel_rfl) (by kernel_rfl) (by kernel_rfl) (fun _ _ _ h => h) (by kernel_rfl) (by assumption) ?_ ?_; rotate_left; (focus (intro w hSw; (try dsimp only at hSw); go_simp; (first | done | (with_reducible rfl)))); (try simp only [Act.put, List.setIfInBounds_toArray, List.set_cons_zero, List.set_cons_succ])
  refine tk_yes 18 (v := ?_) rfl (by kernel_rfl) (by kernel_rfl) (by kernel_rfl) (fun _ _ _ h => h) (by kernel_rfl) (by assumption) ?_ ?_; rotate_left; (focus (intro w hSw; (try dsimp only at hSw); go_simp; (first | done | (with_reducible rfl)))); (try simp only [Act.put, List.setIfInBounds_toArray, List.set_cons_zero, List.set_cons_succ])
  refine tk_yes 20 (v := ?_) rfl (by kernel_rfl) (by kernel_rfl) (by kernel_rfl) (fun _ _ _ h => h) (by kernel_rfl) (by assumption) ?_ ?_; rotate_left; (focus (intro w hSw; (try dsimp only at hSw); go_simp; (first | done | (with_reducible rfl)))); (try simp only [Act.put, List.setIfInBounds_toArray, List.set_cons_zero, List.set_cons_succ])
  refine tk_yes 21 (v := ?_) rfl (by kernel_rfl) (by kernel_rfl) (by kernel_rfl) (fun _ _ _ h => h) (by kernel_rfl) (by assumption) ?_ ?_; rotate_left; (focus (intro w hSw; (try dsimp only at hSw); go_simp; (first | done | (with_reducible rfl)))); (try simp only [Act.put, List.setIfInBounds_toArray, List.set_cons_zero, List.set_cons_succ])
  refine tk_call 19 rfl (by kernel_rfl) (by kernel_rfl) (fun KW hKW => ?_); go_simp; go_at_call 76; refine (hKS.out _ (by repeat (first | exact Below.refl _ _ | assumption | refine bel_drew ?_ | refine bel_drewN ?_ _ | refine bel_alloc ?_ _ | refine bel_trans ?_ (by assumption)))).mono ?_; rintro e u19 ⟨rfl, hb19⟩; have B19 := bel_to (W0 := W7) (by repeat (first | exact Below.refl _ _ | assumption | refine bel_drew ?_ | refine bel_drewN ?_ _ | refine bel_alloc ?_ _ | refine bel_trans ?_ (by assumption))) hb19; have q := hS.out _ B19; clear hb19; refine hKW.out _ _ ?_ (fun hHeld => ?_); (focus ((try dsimp only); first | exact q | exact hS.out _ (by repeat (first | exact Below.refl _ _ | assumption | refine bel_drew ?_ | refine bel_drewN ?_ _ | refine bel_alloc ?_ _ | refine bel_trans ?_ (by assumption))))); clear hKW KW; (try simp only [Act.put, List.setIfInBounds_toArray, List.set_cons_zero, List.set_cons_succ])
  refine tk_call 22 rfl (by kernel_rfl) (by kernel_rfl) (fun KW hKW => ?_); go_simp; go_at_call 73; refine (hKRP.out _ (by repeat (first | exact Below.refl _ _ | assumption | refine bel_drew ?_ | refine bel_drewN ?_ _ | refine bel_alloc ?_ _ | refine bel_trans ?_ (by assumption)))).mono ?_; rintro e u22 ⟨A22, n22, c22, rfl, i22, hb22⟩; have B22 := bel_to (W0 := W7) (by repeat (first | exact Below.refl _ _ | assumption | refine bel_drew ?_ | refine bel_drewN ?_ _ | refine bel_alloc ?_ _ | refine bel_trans ?_ (by assumption))) hb22; have en : n22 = pl := (by have := i22.1.1; rw [ints_len, HPL.out] at this; exact this.symm); subst en; have q := hS.out _ B22; clear i22 hb22; refine hKW.out _ _ ?_ (fun hHeld => ?_); (focus ((try dsimp only); first | exact q | exact hS.out _ (by repeat (first | exact Below.refl _ _ | assumption | refine bel_drew ?_ | refine bel_drewN ?_ _ | refine bel_alloc ?_ _ | refine bel_trans ?_ (by assumption))))); clear hKW KW; (try simp only [Act.put, List.setIfInBounds_toArray, List.set_cons_zero, List.set_cons_succ])
  refine tk_yes 23 (v := ?_) rfl (by kernel_rfl) (by kernel_rfl) (by kernel_rfl) (fun _ _ _ h => h) (by kernel_rfl) (by assumption) ?_ ?_; rotate_left; (focus (intro w hSw; (try dsimp only at hSw); go_simp; (first | done | (with_reducible rfl)))); (try simp only [Act.put, List.setIfInBounds_toArray, List.set_cons_zero, List.set_cons_succ])
  refine tk_yes 24 (v := ?_) rfl (by kernel_rfl) (by kernel_rfl) (by kernel_rfl) (fun _ _ _ h => h) (by kernel_rfl) (by assumption) ?_ ?_; rotate_left; (focus (intro w hSw; (try dsimp only at hSw); go_simp; (first | done | (with_reducible rfl)))); (try simp only [Act.put, List.setIfInBounds_toArray, List.set_cons_zero, List.set_cons_succ])
  refine tk_yes 25 (v := ?_) rfl (by kernel_rfl) (by kernel_rfl) (by kernel_rfl) (fun _ _ _ h => h) (by kernel_rfl) (by assumption) ?_ ?_; rotate_left; (focus (intro w hSw; (try dsimp only at hSw); go_simp; (first | done | (with_reducible rfl)))); (try simp only [Act.put, List.setIfInBounds_toArray, List.set_cons_zero, List.set_cons_succ])
  refine tk_yes 26 (v := ?_) rfl (by kernel_rfl) (by kernel_rfl) (by kernel_rfl) (fun _ _ _ h => h) (by kernel_rfl) (by assumption) ?_ ?_; rotate_left; (focus (intro w hSw; (try dsimp only at hSw); go_simp; (first | done | (with_reducible rfl)))); (try simp only [Act.put, List.setIfInBounds_toArray, List.set_cons_zero, List.set_cons_succ])
  refine tk_yes 27 (v := ?_) rfl (by kernel_rfl) (by kernel_rfl) (by kernel_rfl) (fun _ _ _ h => h) (by kernel_rfl) (by assumption) ?_ ?_; rotate_left; (focus (intro w hSw; (try dsimp only at hSw); go_simp; (first | done | (with_reducible rfl)))); (try simp only [Act.put, List.setIfInBounds_toArray, List.set_cons_zero, List.set_cons_succ])
  refine tk_yes 28 (v := ?_) rfl (by kernel_rfl) (by kernel_rfl) (by kernel_rfl) (fun _ _ _ h => h) (by kernel_rfl) (by assumption) ?_ ?_; rotate_left; (focus (intro w hSw; (try dsimp only at hSw); go_simp; (first | done | (with_reducible rfl)))); (try simp only [Act.put, List.setIfInBounds_toArray, List.set_cons_zero, List.set_cons_succ])
  refine tk_yes 30 (v := ?_) rfl (by kernel_rfl) (by kernel_rfl) (by kernel_rfl) (fun _ _ _ h => h) (by kernel_rfl) (by assumption) ?_ ?_; rotate_left; (focus (intro w hSw; (try dsimp only at hSw); go_simp; (first | done | (with_reducible rfl)))); (try simp only [Act.put, List.setIfInBounds_toArray, List.set_cons_zero, List.set_cons_succ])
  refine tk_yes 31 (v := ?_) rfl (by kernel_rfl) (by kernel_rfl) (by kernel_rfl) (fun _ _ _ h => h) (by kernel_rfl) (by assumption) ?_ ?_; rotate_left; (focus (intro w hSw; (try dsimp only at hSw); go_simp; (first | done | (with_reducible rfl)))); (try simp only [Act.put, List.setIfInBounds_toArray, List.set_cons_zero, List.set_cons_succ])
  refine tk_call 29 rfl (by kernel_rfl) (by kernel_rfl) (fun KW hKW => ?_); go_simp; go_at_call 77; refine (hKD.out _ (by repeat (first | exact Below.refl _ _ | assumption | refine bel_drew ?_ | refine bel_drewN ?_ _ | refine bel_alloc ?_ _ | refine bel_trans ?_ (by assumption)))).mono ?_; rintro e u29 ⟨rfl, hb29⟩; have B29 := bel_to (W0 := W7) (by repeat (first | exact Below.refl _ _ | assumption | refine bel_drew ?_ | refine bel_drewN ?_ _ | refine bel_alloc ?_ _ | refine bel_trans ?_ (by assumption))) hb29; have q := hS.out _ B29; clear hb29; refine hKW.out _ _ ?_ (fun hHeld => ?_); (focus ((try dsimp only); first | exact q | exact hS.out _ (by repeat (first | exact Below.refl _ _ | assumption | refine bel_drew ?_ | refine bel_drewN ?_ _ | refine bel_alloc ?_ _ | refine bel_trans ?_ (by assumption))))); clear hKW KW; (try simp only [Act.put, List.setIfInBounds_toArray, List.set_cons_zero, List.set_cons_succ])
  refine tk_call 32 rfl (by kernel_rfl) (by kernel_rfl) (fun KW hKW => ?_); go_simp; go_at_call 78; refine (hKRD.out _ (by repeat (first | exact Below.refl _ _ | assumption | refine bel_drew ?_ | refine bel_drewN ?_ _ | refine bel_alloc ?_ _ | refine bel_trans ?_ (by assumption)))).mono ?_; rintro e u32 ⟨rfl, hb32⟩; have B32 := bel_to (W0 := W7) (by repeat (first | exact Below.refl _ _ | assumption | refine bel_drew ?_ | refine bel_drewN ?_ _ | refine bel_alloc ?_ _ | refine bel_trans ?_ (by assumption))) hb32; have q := hS.out _ B32; clear hb32; refine hKW.out _ _ ?_ (fun hHeld => ?_); (focus ((try dsimp only); first | exact q | exact hS.out _ (by repeat (first | exact Below.refl _ _ | assumption | refine bel_drew ?_ | refine bel_drewN ?_ _ | refine bel_alloc ?_ _ | refine bel_trans ?_ (by assumption))))); clear hKW KW; (try simp only [Act.put, List.setIfInBounds_toArray, List.set_cons_zero, List.set_cons_succ])
  refine tk_yes 33 (v := ?_) rfl (by kernel_rfl) (by kernel_rfl) (by kernel_rfl) (fun _ _ _ h => h) (by kernel_rfl) (by assumption) ?_ ?_; rotate_left; (focus (intro w hSw; (try dsimp only at hSw); go_simp; (first | done | (with_reducible rfl)))); (try simp only [Act.put, List.setIfInBounds_toArray, List.set_cons_zero, List.set_cons_succ])
  refine tk_yes 34 (v := ?_) rfl (by kernel_rfl) (by kernel_rfl) (by kernel_rfl) (fun _ _ _ h => h) (by kernel_rfl) (by assumption) ?_ ?_; rotate_left; (focus (intro w hSw; (try dsimp only at hSw); go_simp; (first | done | (with_reducible rfl)))); (try simp only [Act.put, List.setIfInBounds_toArray, List.set_cons_zero, List.set_cons_succ])
  refine tk_yes 35 (v := ?_) rfl (by kernel_rfl) (by kernel_rfl) (by kernel_rfl) (fun _ _ _ h => h) (by kernel_rfl) (by assumption) ?_ ?_; rotate_left; (focus (intro w hSw; (try dsimp only at hSw); go_simp; (first | done | (with_reducible rfl)))); (try simp only [Act.put, List.setIfInBounds_toArray, List.set_cons_zero, List.set_cons_succ])
  refine tk_yes 36 (v := ?_) rfl (by kernel_rfl) (by kernel_rfl) (by kernel_rfl) (fun _ _ _ h => h) (by kernel_rfl) (by assumption) ?_ ?_; rotate_left; (focus (intro w hSw; (try dsimp only at hSw); go_simp; (first | done | (with_reducible rfl)))); (try simp only [Act.put, List.setIfInBounds_toArray, List.set_cons_zero, List.set_cons_succ])
  refine tk_yes 37 (v := ?_) rfl (by kernel_rfl) (by kernel_rfl) (by kernel_rfl) (fun _ _ _ h => h) (by kernel_rfl) (by assumption) ?_ ?_; rotate_left; (focus (intro w hSw; (try dsimp only at hSw); go_simp; (first | done | (with_reducible rfl)))); (try simp only [Act.put, List.setIfInBounds_toArray, List.set_cons_zero, List.set_cons_succ])
  refine tk_yes 39 (v := ?_) rfl (by kernel_rfl) (by kernel_rfl) (by kernel_rfl) (fun _ _ _ h => h) (by kernel_rfl) (by assumption) ?_ ?_; rotate_left; (focus (intro w hSw; (try dsimp only at hSw); go_simp; (first | done | (with_reducible rfl)))); (try simp only [Act.put, List.setIfInBounds_toArray, List.set_cons_zero, List.set_cons_succ])
  refine tk_yes 40 (v := ?_) rfl (by kernel_rfl) (by kernel_rfl) (by kernel_rfl) (fun _ _ _ h => h) (by kernel_rfl) (by assumption) ?_ ?_; rotate_left; (focus (intro w hSw; (try dsimp only at hSw); go_simp; (first | done | (with_reducible rfl)))); (try simp only [Act.put, List.setIfInBounds_toArray, List.set_cons_zero, List.set_cons_succ])
  refine tk_call 38 rfl (by kernel_rfl) (by kernel_rfl) (fun KW hKW => ?_); go_simp; go_at_call 79; refine (hKT.out _ (by repeat (first | exact Below.refl _ _ | assumption | refine bel_drew ?_ | refine bel_drewN ?_ _ | refine bel_alloc ?_ _ | refine bel_trans ?_ (by assumption)))).mono ?_; rintro e u38 ⟨rfl, hb38⟩; have B38 := bel_to (W0 := W7) (by repeat (first | exact Below.refl _ _ | assumption | refine bel_drew ?_ | refine bel_drewN ?_ _ | refine bel_alloc ?_ _ | refine bel_trans ?_ (by assumption))) hb38; have q := hS.out _ B38; clear hb38; refine hKW.out _ _ ?_ (fun hHeld => ?_); (focus ((try dsimp only); first | exact q | exact hS.out _ (by repeat (first | exact Below.refl _ _ | assumption | refine bel_drew ?_ | refine bel_drewN ?_ _ | refine bel_alloc ?_ _ | refine bel_trans ?_ (by assumption))))); clear hKW KW; (try simp only [Act.put, List.setIfInBounds_toArray, List.set_cons_zero, List.set_cons_succ])
  refine tk_call 41 rfl (by kernel_rfl) (by kernel_rfl) (fun KW hKW => ?_); go_simp; go_at_call 80; refine (hKRT.out _ (by repeat (first | exact Below.refl _ _ | assumption | refine bel_drew ?_ | refine bel_drewN ?_ _ | refine bel_alloc ?_ _ | refine bel_trans ?_ (by assumption)))).mono ?_; rintro e u41 ⟨rfl, hb41⟩; have B41 := bel_to (W0 := W7) (by repeat (first | exact Below.refl _ _ | assumption | refine bel_drew ?_ | refine bel_drewN ?_ _ | refine bel_alloc ?_ _ | refine bel_trans ?_ (by assumption))) hb41; have q := hS.out _ B41; clear hb41; refine hKW.out _ _ ?_ (fun hHeld => ?_); (focus ((try dsimp only); first | exact q | exact hS.out _ (by repeat (first | exact Below.refl _ _ | assumption | refine bel_drew ?_ | refine bel_drewN ?_ _ | refine bel_alloc ?_ _ | refine bel_trans ?_ (by assumption))))); clear hKW KW; (try simp only [Act.put, List.setIfInBounds_toArray, List.set_cons_zero, List.set_cons_succ])
  refine tk_yes 42 (v := ?_) rfl (by kernel_rfl) (by kernel_rfl) (by kernel_rfl) (fun _ _ _ h => h) (by kernel_rfl) (by assumption) ?_ ?_; rotate_left; (focus (intro w hSw; (try dsimp only at hSw); go_simp; (first | done | (with_reducible rfl)))); (try simp only [Act.put, List.setIfInBounds_toArray, List.set_cons_zero, List.set_cons_succ])
  refine tk_yes 43 (v := ?_) rfl (by kernel_rfl) (by kernel_rfl) (by kernel_rfl) (fun _ _ _ h => h) (by kernel_rfl) (by assumption) ?_ ?_; rotate_left; (focus (intro w hSw; (try dsimp only at hSw); go_simp; (first | done | (with_reducible rfl)))); (try simp only [Act.put, List.setIfInBounds_toArray, List.set_cons_zero, List.set_cons_succ])
  refine tk_yes 44 (v := ?_) rfl (by kernel_rfl) (by kernel_rfl) (by kernel_rfl) (fun _ _ _ h => h) (by kernel_rfl) (by assumption) ?_ ?_; rotate_left; (focus (intro w hSw; (try dsimp only at hSw); go_simp; (first | done | (with_reducible rfl)))); (try simp only [Act.put, List.setIfInBounds_toArray, List.set_cons_zero, List.set_cons_succ])
  refine tk_yes 45 (v := ?_) rfl (by kernel_rfl) (by kernel_rfl) (by kernel_rfl) (fun _ _ _ h => h) (by kernel_rfl) (by assumption) ?_ ?_; rotate_left; (focus (intro w hSw; (try dsimp only at hSw); go_simp; (first | done | (with_reducible rfl)))); (try simp only [Act.put, List.setIfInBounds_toArray, List.set_cons_zero, List.set_cons_succ])
  refine tk_yes 46 (v := ?_) rfl (by kernel_rfl) (by kernel_rfl) (by kernel_rfl) (fun _ _ _ h => h) (by kernel_rfl) (by assumption) ?_ ?_; rotate_left; (focus (intro w hSw; (try dsimp only at hSw); go_simp; (first | done | (with_reducible rfl)))); (try simp only [Act.put, List.setIfInBounds_toArray, List.set_cons_zero, List.set_cons_succ])
  refine tk_yes 47 (v := ?_) rfl (by kernel_rfl) (by kernel_rfl) (by kernel_rfl) (fun _ _ _ h => h) (by kernel_rfl) (by assumption) ?_ ?_; rotate_left; (focus (intro w hSw; (try dsimp only at hSw); go_simp; (first | done | (with_reducible rfl)))); (try simp only [Act.put, List.setIfInBounds_toArray, List.set_cons_zero, List.set_cons_succ])
  refine tk_yes 49 (v := ?_) rfl (by kernel_rfl) (by kernel_rfl) (by kernel_rfl) (fun _ _ _ h => h) (by kernel_rfl) (by assumption) ?_ ?_; rotate_left; (focus (intro w hSw; (try dsimp only at hSw); go_simp; (first | done | (with_reducible rfl)))); (try simp only [Act.put, List.setIfInBounds_toArray, List.set_cons_zero, List.set_cons_succ])
  refine tk_yes 50 (v := ?_) rfl (by kernel_rfl) (by kernel_rfl) (by kernel_rfl) (fun _ _ _ h => h) (by kernel_rfl) (by assumption) ?_ ?_; rotate_left; (focus (intro w hSw; (try dsimp only at hSw); go_simp; (first | done | (with_reducible rfl)))); (try simp only [Act.put, List.setIfInBounds_toArray, List.set_cons_zero, List.set_cons_succ])
  refine tk_yes 51 (v := ?_) rfl (by kernel_rfl) (by kernel_rfl) (by kernel_rfl) (fun _ _ _ h => h) (by kernel_rfl) (by assumption) ?_ ?_; rotate_left; (focus (intro w hSw; (try dsimp only at hSw); go_simp; (first | done | (with_reducible rfl)))); (try simp only [Act.put, List.setIfInBounds_toArray, List.set_cons_zero, List.set_cons_succ])
  refine tk_call 48 rfl (by kernel_rfl) (by kernel_rfl) (fun KW hKW => ?_); go_simp; go_at_call 81; refine (hKJ.out _ (by repeat (first | exact Below.refl _ _ | assumption | refine bel_drew ?_ | refine bel_drewN ?_ _ | refine bel_alloc ?_ _ | refine bel_trans ?_ (by assumption)))).mono ?_; rintro e u48 ⟨rfl, hb48⟩; have B48 := bel_to (W0 := W7) (by repeat (first | exact Below.refl _ _ | assumption | refine bel_drew ?_ | refine bel_drewN ?_ _ | refine bel_alloc ?_ _ | refine bel_trans ?_ (by assumption))) hb48; have q := hS.out _ B48; clear hb48; refine hKW.out _ _ ?_ (fun hHeld => ?_); (focus ((try dsimp only); first | exact q | exact hS.out _ (by repeat (first | exact Below.refl _ _ | assumption | refine bel_drew ?_ | refine bel_drewN ?_ _ | refine bel_alloc ?_ _ | refine bel_trans ?_ (by assumption))))); clear hKW KW; (try simp only [Act.put, List.setIfInBounds_toArray, List.set_cons_zero, List.set_cons_succ])
  refine tk_call 52 rfl (by kernel_rfl) (by kernel_rfl) (fun KW hKW => ?_); go_simp; go_at_call 82; refine (hKRW.out _ (by repeat (first | exact Below.refl _ _ | assumption | refine bel_drew ?_ | refine bel_drewN ?_ _ | refine bel_alloc ?_ _ | refine bel_trans ?_ (by assumption)))).mono ?_; rintro e u52 ⟨rfl, hb52⟩; have B52 := bel_to (W0 := W7) (by repeat (first | exact Below.refl _ _ | assumption | refine bel_drew ?_ | refine bel_drewN ?_ _ | refine bel_alloc ?_ _ | refine bel_trans ?_ (by assumption))) hb52; have q := hS.out _ B52; clear hb52; refine hKW.out _ _ ?_ (fun hHeld => ?_); (focus ((try dsimp only); first | exact q | exact hS.out _ (by repeat (first | exact Below.refl _ _ | assumption | refine bel_drew ?_ | refine bel_drewN ?_ _ | refine bel_alloc ?_ _ | refine bel_trans ?_ (by assumption))))); clear hKW KW; (try simp only [Act.put, List.setIfInBounds_toArray, List.set_cons_zero, List.set_cons_succ])
  refine tk_yes 53 (v := ?_) rfl (by kernel_rfl) (by kernel_rfl) (by kernel_rfl) (fun _ _ _ h => h) (by kernel_rfl) (by assumption) ?_ ?_; rotate_left; (focus (intro w hSw; (try dsimp only at hSw); go_simp; (first | done | (with_reducible rfl)))); (try simp only [Act.put, List.setIfInBounds_toArray, List.set_cons_zero, List.set_cons_succ])
  refine tk_yes 54 (v := ?_) rfl (by kernel_rfl) (by kernel_rfl) (by kernel_rfl) (fun _ _ _ h => h) (by kernel_rfl) (by assumption) ?_ ?_; rotate_left; (focus (intro w hSw; (try dsimp only at hSw); go_simp; (first | done | (with_reducible rfl)))); (try simp only [Act.put, List.setIfInBounds_toArray, List.set_cons_zero, List.set_cons_succ])
  refine tk_yes 55 (v := ?_) rfl (by kernel_rfl) (by kernel_rfl) (by kernel_rfl) (fun _ _ _ h => h) (by kernel_rfl) (by assumption) ?_ ?_; rotate_left; (focus (intro w hSw; (try dsimp only at hSw); go_simp; (first | done | (with_reducible rfl)))); (try simp only [Act.put, List.setIfInBounds_toArray, List.set_cons_zero, List.set_cons_succ])
  refine tk_call 56 rfl (by kernel_rfl) (by kernel_rfl) (fun KW hKW => ?_); go_simp; go_at_call 70; refine (law38_works _).mono ?_; rintro e u56 ⟨rfl, hb56⟩; have B56 := bel_to (W0 := W7) (by repeat (first | exact Below.refl _ _ | assumption | refine bel_drew ?_ | refine bel_drewN ?_ _ | refine bel_alloc ?_ _ | refine bel_trans ?_ (by assumption))) hb56; have q := hS.out _ B56; clear hb56; refine hKW.out _ _ ?_ (fun hHeld => ?_); (focus ((try dsimp only); first | exact q | exact hS.out _ (by repeat (first | exact Below.refl _ _ | assumption | refine bel_drew ?_ | refine bel_drewN ?_ _ | refine bel_alloc ?_ _ | refine bel_trans ?_ (by assumption))))); clear hKW KW; (try simp only [Act.put, List.setIfInBounds_toArray, List.set_cons_zero, List.set_cons_succ])
  refine tk_yes 57 (v := ?_) rfl (by kernel_rfl) (by kernel_rfl) (by kernel_rfl) (fun _ _ _ h => h) (by kernel_rfl) (by assumption) ?_ ?_; rotate_left; (focus (intro w hSw; (try dsimp only at hSw); go_simp; (first | done | (with_reducible rfl)))); (try simp only [Act.put, List.setIfInBounds_toArray, List.set_cons_zero, List.set_cons_succ])
  refine tk_yes 58 (v := ?_) rfl (by kernel_rfl) (by kernel_rfl) (by kernel_rfl) (fun _ _ _ h => h) (by kernel_rfl) (by assumption) ?_ ?_; rotate_left; (focus (intro w hSw; (try dsimp only at hSw); go_simp; (first | done | (with_reducible rfl)))); (try simp only [Act.put, List.setIfInBounds_toArray, List.set_cons_zero, List.set_cons_succ])
  refine wpAnyH_done (by kernel_rfl) ?_ _
  go_wp2_with fail
  go_ret
  exact ⟨rfl, bel_trans BW.out B56⟩
end Go.Proofs.Ytdhcmnbajkpjiaa
/-
  Plain Lean: a subtree depth by depth, the way from a node to another one, and the trees of all roots.
-/
namespace Go.Proofs.Ytdhcmnbajkpjiaa
set_option linter.unusedVariables false
set_option linter.unusedSimpArgs false
namespace PW
variable {kid : Nat → List Nat} {rk : Nat → Nat} {par : Nat → Option Nat} {dp : Nat → Nat} {N : List Nat}
/-- How many nodes the trees of some nodes have. -/
def wt (kid : Nat → List Nat) (rk : Nat → Nat) (l : List Nat) : Nat := (l.flatMap (pre kid rk)).length
theorem wt_cons (h : ∀ x c, c ∈ kid x → rk c < rk x) (x : Nat) (l : List Nat) : wt kid rk (x :: l) = wt kid rk (l ++ kid x) + 1 := by
  unfold wt
  rw [pre_step h, List.length_cons, List.flatMap_append, List.flatMap_append, List.length_append, List.length_append, Nat.add_comm (List.length _)]
/-- Out of a queue: each node, and its children behind all that wait. -/
def qF (kid : Nat → List Nat) : Nat → List Nat → List Nat
  | 0, _ => []
  | _ + 1, [] => []
  | k + 1, x :: q => x :: qF kid k (q ++ kid x)
def que (kid : Nat → List Nat) (rk : Nat → Nat) (l : List Nat) : List Nat := qF kid (wt kid rk l) l
theorem que_nil : que kid rk [] = [] := rfl
theorem que_cons (h : ∀ x c, c ∈ kid x → rk c < rk x) (x : Nat) (l : List Nat) : que kid rk (x :: l) = x :: que kid rk (l ++ kid x) := by
  unfold que
  rw [wt_cons h]
  rfl
theorem que_len (h : ∀ x c, c ∈ kid x → rk c < rk x) : ∀ (k : Nat) (l : List Nat), wt kid rk l = k → (que kid rk l).length = k
  | 0, l, e => by unfold que; rw [e]; rfl
  | k + 1, [], e => by exact absurd e (by simp [wt])
  | k + 1, x :: l, e => by
    rw [que_cons h, List.length_cons, que_len h k (l ++ kid x) (by rw [wt_cons h] at e; omega)]
theorem que_row (h : ∀ x c, c ∈ kid x → rk c < rk x) : ∀ (r s : List Nat), que kid rk (r ++ s) = r ++ que kid rk (s ++ r.flatMap kid)
  | [], s => by simp
  | x :: r, s => by
    rw [List.cons_append, que_cons h, List.append_assoc, que_row h r (s ++ kid x), List.flatMap_cons, List.append_assoc]
    rfl
theorem que_rows (h : ∀ x c, c ∈ kid x → rk c < rk x) (r : List Nat) : que kid rk r = r ++ que kid rk (r.flatMap kid) := by
  have := que_row h r []
  simpa using this
/-- A list up to the first one that is among others, this one, and these others up to it, from it on back. -/
def path (u v : List Nat) : List Nat :=
  match u.find? (fun x => decide (x ∈ v)) with
  | none => []
  | some n => u.takeWhile (fun x => decide (x ∉ v)) ++ n :: (v.takeWhile (fun x => decide (x ≠ n))).reverse
theorem path_none {u v : List Nat} (h : ∀ x ∈ u, x ∉ v) : path u v = [] := by
  unfold path
  rw [List.find?_eq_none.2 (fun x hx => by simpa using h x hx)]
theorem path_some {A B C D : List Nat} {n : Nat} (hA : ∀ x ∈ A, x ∉ B ++ n :: D) (hB : n ∉ B) : path (A ++ n :: C) (B ++ n :: D) = A ++ n :: B.reverse := by
  have e1 : (A ++ n :: C).find? (fun x => decide (x ∈ B ++ n :: D)) = some n := by
    rw [List.find?_append, List.find?_eq_none.2 (fun x hx => by simpa using hA x hx)]
    simp
  have e2 : (A ++ n :: C).takeWhile (fun x => decide (x ∉ B ++ n :: D)) = A := by
    rw [List.takeWhile_append_of_pos (fun x hx => decide_eq_true (hA x hx)), List.takeWhile_cons_of_neg (by simp), List.append_nil]
  have e3 : (B ++ n :: D).takeWhile (fun x => decide (x ≠ n)) = B := by
    rw [List.takeWhile_append_of_pos (fun x hx => by simp only [ne_eq, decide_not, Bool.not_eq_true', decide_eq_false_iff_not]; exact fun e => hB (e ▸ hx)), List.takeWhile_cons_of_neg (by simp), List.append_nil]
  unfold path
  rw [e1]
  simp only []
  rw [e2, e3]
/-- The first one of a list that is among others. -/
theorem first_split {v : List Nat} : ∀ {u : List Nat}, (∃ x ∈ u, x ∈ v) → ∃ A n C, u = A ++ n :: C ∧ (∀ x ∈ A, x ∉ v) ∧ n ∈ v
  | [], h => by obtain ⟨x, h1, _⟩ := h; exact absurd h1 (by simp)
  | y :: u, h => by
    by_cases hy : y ∈ v
    · exact ⟨[], y, u, rfl, fun x hx => absurd hx (by simp), hy⟩
    · obtain ⟨x, h1, h2⟩ := h
      rw [List.mem_cons] at h1
      rcases h1 with rfl | h1
      · exact absurd h2 hy
      · obtain ⟨A, n, C, e, h3, h4⟩ := first_split ⟨x, h1, h2⟩
        refine ⟨y :: A, n, C, by rw [e]; rfl, fun z hz => ?_, h4⟩
        rw [List.mem_cons] at hz
        rcases hz with rfl | hz
        · exact hy
        · exact h3 z hz
/-- Behind a node on a way up stands that node's way up. -/
theorem ups_tail (h : Is kid rk par dp N) {n : Nat} {x : Nat} (hx : x ∈ N) : ∀ A C, ups par dp x = A ++ n :: C → n :: C = ups par dp n := by
  refine climb h (M := fun x => ∀ A C, ups par dp x = A ++ n :: C → n :: C = ups par dp n) (fun x hx e A C he => ?_) (fun x p hx e ih A C he => ?_) hx
  · cases A with
    | nil => rw [ups_none h hx e] at he; injection he with h1 h2; subst h1; rw [← h2, ups_none h hx e]
    | cons a A => rw [ups_none h hx e] at he; injection he with h1 h2; simp at h2
  · cases A with
    | nil => have he' := he; rw [ups_some h hx e] at he'; injection he' with h1 h2; subst h1; rw [he]; rfl
    | cons a A => rw [ups_some h hx e] at he; injection he with h1 h2; exact ih A C h2
theorem ups_top (h : Is kid rk par dp N) {x : Nat} (hx : x ∈ N) : ∃ A r, ups par dp x = A ++ [r] ∧ par r = none ∧ r ∈ N := by
  refine climb h (M := fun x => ∃ A r, ups par dp x = A ++ [r] ∧ par r = none ∧ r ∈ N) (fun x hx e => ⟨[], x, ups_none h hx e, e, hx⟩) (fun x p hx e ih => ?_) hx
  obtain ⟨A, r, h1, h2, h3⟩ := ih
  exact ⟨x :: A, r, by rw [ups_some h hx e, h1]; rfl, h2, h3⟩
/-- Of two nodes, with the same root or not. -/
theorem two_ways (h : Is kid rk par dp N) {a b : Nat} (ha : a ∈ N) (hb : b ∈ N) :
    (∃ A B C n, ups par dp a = A ++ n :: C ∧ ups par dp b = B ++ n :: C ∧ (∀ x ∈ A, x ∉ ups par dp b) ∧ (∀ x ∈ B, x ∉ ups par dp a)) ∨ (∀ x ∈ ups par dp a, x ∉ ups par dp b) := by
  by_cases hc : ∃ x ∈ ups par dp a, x ∈ ups par dp b
  · left
    obtain ⟨A, n, C, e, h1, h2⟩ := first_split hc
    obtain ⟨B, D, e2⟩ := List.append_of_mem h2
    have t1 := ups_tail h ha A C e
    have t2 := ups_tail h hb B D e2
    have e3 : C = D := by rw [← t1] at t2; injection t2 with _ h3; exact h3.symm
    subst e3
    refine ⟨A, B, C, n, e, e2, h1, fun x hx hxa => ?_⟩
    have nd := ups_nodup h hb
    rw [e2] at nd
    have hx2 : x ∈ ups par dp b := by rw [e2]; simp [hx]
    rw [e, List.mem_append] at hxa
    rcases hxa with hxa | hxa
    · exact h1 x hxa hx2
    · exact (List.nodup_append.1 nd).2.2 x hx x hxa rfl
  · right; intro x h1 h2; exact hc ⟨x, h1, h2⟩
theorem path_two (h : Is kid rk par dp N) {a b : Nat} (hb : b ∈ N) {A B C : List Nat} {n : Nat} (e1 : ups par dp a = A ++ n :: C) (e2 : ups par dp b = B ++ n :: C) (h1 : ∀ x ∈ A, x ∉ ups par dp b) :
    path (ups par dp a) (ups par dp b) = A ++ n :: B.reverse := by
  rw [e2] at h1
  rw [e1, e2]
  refine path_some h1 (fun hn => ?_)
  have nd := ups_nodup h hb
  rw [e2] at nd
  exact (List.nodup_append.1 nd).2.2 n hn n (by simp) rfl
/-- The way back is the way, from its end on. -/
theorem path_back (h : Is kid rk par dp N) {a b : Nat} (ha : a ∈ N) (hb : b ∈ N) : path (ups par dp b) (ups par dp a) = (path (ups par dp a) (ups par dp b)).reverse := by
  rcases two_ways h ha hb with ⟨A, B, C, n, e1, e2, h1, h2⟩ | hc
  · rw [path_two h hb e1 e2 h1, path_two h ha e2 e1 h2]; simp
  · rw [path_none hc, path_none (fun x hx hx2 => hc x hx2 hx)]; rfl
/-- The trees of all roots have all nodes, each once. -/
theorem roots_all (h : Is kid rk par dp N) (hN : N.Nodup) {rs : List Nat} (hr : rs.Nodup) (hm : ∀ x, x ∈ rs ↔ x ∈ N ∧ par x = none) : wt kid rk rs = N.length := by
  unfold wt
  have key : ∀ z, z ∈ rs.flatMap (pre kid rk) ↔ z ∈ N := fun z => by
    rw [List.mem_flatMap]
    constructor
    · rintro ⟨r, h1, h2⟩; exact pre_in h r ((hm r).1 h1).1 z h2
    · intro hz
      obtain ⟨A, r, h1, h2, h3⟩ := ups_top h hz
      exact ⟨r, (hm r).2 ⟨h3, h2⟩, (within h hz h3).2 (by rw [h1]; simp)⟩
  have nd : (rs.flatMap (pre kid rk)).Nodup := by
    refine flat_nodup hr (fun c _ => pre_nodup h c) (fun c hc d hd z h1 h2 => ?_)
    have c1 := (hm c).1 hc
    have d1 := (hm d).1 hd
    have hz := pre_in h c c1.1 z h1
    rcases ups_two h hz ((within h hz c1.1).1 h1) ((within h hz d1.1).1 h2) with hm2 | hm2
    · rw [ups_none h d1.1 d1.2, List.mem_singleton] at hm2; exact hm2
    · rw [ups_none h c1.1 c1.2, List.mem_singleton] at hm2; exact hm2.symm
  exact Nat.le_antisymm (List.Nodup.length_le_of_subset nd (fun z hz => (key z).1 hz)) (List.Nodup.length_le_of_subset hN (fun z hz => (key z).2 hz))
/-- A subtree has its children's, and one more. -/
theorem size_kids (h : Is kid rk par dp N) (x : Nat) : (pre kid rk x).length = wt kid rk (kid x) + 1 := by
  rw [pre_eq h.hk, List.length_cons]; rfl
/-- Whatever is in a root's tree has that root at the end of its way up. -/
theorem top_in (h : Is kid rk par dp N) {r z : Nat} (hr : r ∈ N) (e : par r = none) (hz : z ∈ pre kid rk r) : (ups par dp z).getLast? = some r := by
  have hzN := pre_in h r hr z hz
  have hm := (within h hzN hr).1 hz
  obtain ⟨A, C, h1⟩ := List.append_of_mem hm
  have h2 := ups_tail h hzN A C h1
  rw [ups_none h hr e] at h2
  injection h2 with _ h3
  rw [h1, h3]; simp
end PW
end Go.Proofs.Ytdhcmnbajkpjiaa
