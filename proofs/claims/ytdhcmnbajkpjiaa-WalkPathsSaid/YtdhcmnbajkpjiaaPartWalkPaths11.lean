/- Part 11 of the proof of WalkPaths: lemmas, each with its conditions ahead of it. -/
import Derived.Test.YtdhcmnbajkpjiaaPartWalkPaths10
import Derived.Laws.Cover3
import Derived.Test.YtdhcmnbajkpjiaaPartWalkPaths1
import Derived.Test.YtdhcmnbajkpjiaaPartWalkPaths3
/-
  slices.Clone and slices.Reverse of ints.
-/
namespace Go.Proofs.Ytdhcmnbajkpjiaa
open Go.RowKit
open Go.Maps
set_option linter.unusedVariables false
set_option linter.unusedSimpArgs false
attribute [local go_sem] drewN_alloc drewN_setCell

variable {w w' : World}
set_option maxRecDepth 100000 in
theorem slices_CloneI {A : Option Addr} {m : Nat} {xs : List Int} (c : Nat) (h : IntsAt w A m xs) (hm : m ≤ 100000) : Calls Try.prog 139 #[.slice A m c] w (GivesOwnI w xs) := by
  cases A with
  | none =>
    have h0 : m = 0 := by
      rcases Nat.eq_zero_or_pos m with h1 | h1
      · exact h1
      · obtain ⟨b, off, e, _⟩ := h.2.2 h1; cases e
    have hx : xs = [] := List.eq_nil_of_length_eq_zero (h.1.trans h0)
    subst hx; subst h0
    clear h
    have hnil : (binOp .eql 27 (.slice none 0 c) (.slice none 0 0)).run Try.prog w = .ok (.bool true) w := by simp only [binOp]; simp [run_equal_slice_nil w _ _ none 0 c Try.underlying27]
    go_enter Try.func139, Try.ntmps139
    go_wp2_with fail
    exact bodyPost_ret (v := .slice none 0 0) (by simp [results, Try.results139, go_sem]) rfl ⟨_, rfl, OwnI.nil _ _, Below.refl _ _⟩
  | some ad =>
    have H := Lib.hid h
    clear h
    have hnil : (binOp .eql 27 (.slice (some ad) m c) (.slice none 0 0)).run Try.prog w = .ok (.bool false) w := by simp only [binOp]; simp [run_equal_slice_nil w _ _ (some ad) m c Try.underlying27]
    go_enter Try.func139, Try.ntmps139
    go_wp2_with (at_builtin; refine app_listI rfl (.tmp 5) (.tmp 6) rfl w.heap.size _ [] rfl (own_emptyI w) (some ad) m c xs rfl ((H.out.keep (bel_alloc (Below.refl _ _) _)).srcI) (by simp; omega) (by simp) ?_; intro v9 w9 ho9 hb9; rw [List.nil_append] at ho9; obtain ⟨A9, c9, rfl, -⟩ := ho9.ints; have HO9 := Lib.hid ho9; have B9 := Lib.hid ((bel_alloc (Below.refl w.heap.size w) (.cells #[] 3)).trans hb9); clear ho9 hb9)
    all_goals (go_ret; exact ⟨_, rfl, HO9.out, B9.out⟩)
theorem OwnI.set {B g n c k : Nat} {l : List Int} (h : OwnI B w (.slice (some ⟨g, 0, none⟩) n c) l) (hk : k < l.length) (x : Int) : OwnI B (w.setCell ⟨g, k, none⟩ (.int .i64 x)) (.slice (some ⟨g, 0, none⟩) n c) (l.set k x) := by
  refine ⟨by simp [cellsI], ?_⟩
  rcases h.2 with ⟨e, _⟩ | ⟨g', cap, cur, e, hb, hgg, hn, hcm, hcs, hx⟩
  · cases e
  · cases e
    have hr : RowAt w g 3 cur.toList := by unfold RowAt; simpa using hgg
    have hr2 := hr.set_ k (.int .i64 x)
    unfold RowAt at hr2
    refine .inr ⟨g, c, (cur.toList.set k (.int .i64 x)).toArray, by rw [List.length_set], hb, hr2, by rw [List.length_set]; exact hn, hcm, by simp [hcs], ?_⟩
    rw [Nat.mul_one] at hx ⊢
    rw [List.length_set]
    show (cur.toList.set k (.int .i64 x)).take l.length = cellsI (l.set k x)
    rw [List.take_set, hx]
    simp [cellsI, List.map_set]
def GivesRev (B : Nat) (w : World) (v : Value) (xs : List Int) (e : Ending) (w' : World) : Prop := e = .returned (.tuple #[]) ∧ OwnI B w' v xs.reverse ∧ Below B w w'
def RevRel (B : Nat) (w : World) (g n c : Nat) (xs : List Int) (iv jv : Value) (wr : World) : Prop :=
  ∃ (i : Nat) (ys : List Int), iv = .int .i64 (i : Nat) ∧ jv = .int .i64 ((n : Int) - 1 - (i : Int)) ∧ 2 * i ≤ n + 1 ∧ OwnI B wr (.slice (some ⟨g, 0, none⟩) n c) ys ∧ ys.length = n ∧ (∀ t, t < n → ys.getD t 0 = if t < i ∨ n < t + i + 1 then xs.getD (n - 1 - t) 0 else xs.getD t 0) ∧ Below B w wr
theorem rev_of {n : Nat} {xs ys : List Int} (hx : xs.length = n) (hy : ys.length = n) (h : ∀ t, t < n → ys.getD t 0 = xs.getD (n - 1 - t) 0) : ys = xs.reverse := by
  refine list_eq_getD hy (by simp [hx]) (fun t ht => ?_)
  rw [h t ht]
  have h2 : n - 1 - t < xs.length := by omega
  simp [List.getD, List.getElem?_reverse, hx, ht, h2]
  rw [List.getElem?_eq_getElem h2]; rfl
set_option maxHeartbeats 8000000 in
theorem slices_ReverseI {B : Nat} {v : Value} {xs : List Int} (h : OwnI B w v xs) : Calls Try.prog 140 #[v] w (GivesRev B w v xs) := by
  rcases own_cases h with ⟨rfl, rfl⟩ | ⟨g, c, rfl⟩
  · clear h
    go_enter Try.func140, Try.ntmps140
    go_wp2_with fail
    refine wp_loop_rounds 1 ?_
    rw [rounds_succ]
    go_wp2_with fail
    exact bodyPost_ret (v := .tuple #[]) (by simp [results, Try.results140, go_sem]) rfl ⟨rfl, OwnI.nil _ _, Below.refl _ _⟩
  · obtain ⟨n, hn⟩ : ∃ n, xs.length = n := ⟨_, rfl⟩
    have hv := h.vals
    have hBg := hv.2.2.2.2
    have hn9 : n ≤ 9223372036854775807 := by omega
    rw [hn] at h ⊢
    have H := Lib.hid h
    have HN := Lib.hid hn
    have w1 : IntKind.i64.wrap ((n : Int) - 1) = (n : Int) - 1 := by rw [IntKind.wrap_i64]; omega
    clear h hn hv
    go_enter Try.func140, Try.ntmps140
    go_wp2_with fail
    go_loopw [2, 3] (fun i j wr => RevRel B w g n c xs i j wr) (fun i _ _ => n - (intOf i).toNat)
    case atStart => exact ⟨0, xs, rfl, by simp, by omega, H.out, HN.out, fun t ht => by rw [if_neg (by omega)], Below.refl _ _⟩
    case round =>
      obtain ⟨i, ys, rfl, rfl, hi, ho, hyl, hy, hb⟩ := hrel
      have HO := Lib.hid ho
      have HYL := Lib.hid hyl
      have HY := Lib.hid hy
      have HB := Lib.hid hb
      clear hyl hy hb
      by_cases hlt : (i : Int) < (n : Int) - 1 - (i : Int)
      · obtain ⟨j, hj⟩ : ∃ j : Nat, n - 1 - i = j := ⟨_, rfl⟩
        have hje : (n : Int) - 1 - (i : Int) = (j : Int) := by omega
        rw [hje] at hlt ⊢
        have hv := ho.vals.1
        have hyn : ys.length = n := HYL.out
        have xi := hv.2.2.1 i (by omega)
        have xj := hv.2.2.1 j (by omega)
        have fi := hv.2.2.2 i
        have fj := hv.2.2.2 j
        obtain ⟨a, ha⟩ : ∃ a, ys.getD i 0 = a := ⟨_, rfl⟩
        obtain ⟨b, hb⟩ : ∃ b, ys.getD j 0 = b := ⟨_, rfl⟩
        rw [ha] at xi
        rw [hb] at xj
        have i0 : (0 : Int) ≤ (i : Int) := by omega
        have j0 : (0 : Int) ≤ (j : Int) := by omega
        have i1 : (i : Int) < (n : Int) := by omega
        have j1 : (j : Int) < (n : Int) := by omega
        have nij : ¬ i = j := by omega
        have nji : ¬ j = i := by omega
        have HO2 : Hid (OwnI B ((wr.setCell ⟨g, i, none⟩ (.int .i64 b)).setCell ⟨g, j, none⟩ (.int .i64 a)) (.slice (some ⟨g, 0, none⟩) n c) ((ys.set i b).set j a)) := Lib.hid ((ho.set (by omega) b).set (by simp; omega) a)
        have HB2 : Hid (Below B w ((wr.setCell ⟨g, i, none⟩ (.int .i64 b)).setCell ⟨g, j, none⟩ (.int .i64 a))) := Lib.hid ((HB.out.setCell hBg _).setCell hBg _)
        have HY2 : Hid (∀ t, t < n → ((ys.set i b).set j a).getD t 0 = if t < i + 1 ∨ n < t + (i + 1) + 1 then xs.getD (n - 1 - t) 0 else xs.getD t 0) := Lib.hid (fun t ht => by
          have e1 : ((ys.set i b).set j a).getD t 0 = if t = j then a else if t = i then b else ys.getD t 0 := by
            simp only [List.getD, List.getElem?_set, List.length_set]
            by_cases h1 : t = j
            · subst h1; simp [hyn, ht]
            · by_cases h2 : t = i
              · subst h2; simp [hyn, ht, Ne.symm h1, h1]
              · simp [Ne.symm h1, Ne.symm h2, h1, h2]
          rw [e1]
          by_cases h1 : t = j
          · subst h1
            have := HY.out i (by omega)
            rw [if_neg (by omega)] at this
            rw [if_pos rfl, if_pos (by omega), ← ha, this]
            congr 1; omega
          · rw [if_neg h1]
            by_cases h2 : t = i
            · subst h2
              have := HY.out j (by omega)
              rw [if_neg (by omega)] at this
              rw [if_pos rfl, if_pos (by omega), ← hb, this]
              congr 1; omega
            · rw [if_neg h2, HY.out t ht]
              by_cases h3 : t < i ∨ n < t + i + 1
              · rw [if_pos h3, if_pos (by omega)]
              · rw [if_neg h3, if_neg (by omega)])
        have hI2 : 2 * (i + 1) ≤ n + 1 := by omega
        have wi : IntKind.i64.wrap ((i : Int) + 1) = (i : Int) + 1 := by rw [IntKind.wrap_i64]; omega
        have wj : IntKind.i64.wrap ((j : Int) - 1) = (j : Int) - 1 := by rw [IntKind.wrap_i64]; omega
        have HJ : Hid ((j : Int) - 1 = (n : Int) - 1 - ((i + 1 : Nat) : Int)) := Lib.hid (by omega)
        clear ha hb hv ho hje hj hyn hi
        go_upto_region 3 with (fail)
        go_region
        all_goals skip
        go_wp2_with fail
        go_roundw
        case rel => exact ⟨i + 1, (ys.set i b).set j a, rfl, by rw [HJ.out], hI2, HO2.out, by simp [HYL.out], HY2.out, HB2.out.drew⟩
        case measure => simp [intOf]; omega
      · have HE : Hid (OwnI B wr (.slice (some ⟨g, 0, none⟩) n c) xs.reverse) := Lib.hid (by
          rw [← rev_of HN.out HYL.out (fun t ht => by
            rw [HY.out t ht]
            by_cases h3 : t < i ∨ n < t + i + 1
            · rw [if_pos h3]
            · rw [if_neg h3]; congr 1; omega)]
          exact HO.out)
        clear ho
        go_wp2_with fail
        exact bodyPost_ret (v := .tuple #[]) (by simp [results, Try.results140, go_sem]) rfl ⟨rfl, HE.out, HB.out⟩
end Go.Proofs.Ytdhcmnbajkpjiaa
/-
  Layer 38 (walk): Path.
-/
namespace Go.Proofs.Ytdhcmnbajkpjiaa
open Go.RowKit
open Go.Maps
set_option linter.unusedVariables false
set_option linter.unusedSimpArgs false
attribute [local go_sem] drewN_alloc drewN_setCell

variable {w0 w w' : World} {own : Nat → Prop} {Fb n : Nat} {S : FSt} {N : List Nat} {up : List Int}
/-- The way from a node to another one. -/
def pathW (N : List Nat) (up : List Int) (a b : Int) : List Nat := PW.path (upsV N up a) (upsV N up b)
theorem IntsAt.first {b off m : Nat} {xs : List Int} (h : IntsAt w (some ⟨b, off, none⟩) m xs) {k : Nat} (hk : k ≤ m) : IntsAt w (some ⟨b, off, none⟩) k (xs.take k) := by
  refine ⟨by rw [List.length_take, h.1]; omega, by have := h.2.1; omega, fun h0 => ?_⟩
  obtain ⟨b', off', e, hb, hx⟩ := h.2.2 (by omega)
  cases e
  refine ⟨b, off, rfl, hb, fun i hi => ?_⟩
  rw [hx i (by omega)]
  simp [List.getD, List.getElem?_take, hi]
def PathRel (W0 : World) (U D : List Nat) (v i : Value) (wr : World) : Prop :=
  ∃ k : Nat, k ≤ U.length ∧ i = .int .i64 (k : Nat) ∧ OwnI W0.heap.size wr v (ints (U.take k)) ∧ (∀ x ∈ U.take k, x ∉ D) ∧ Below W0.heap.size W0 wr
theorem path_hit {U D : List Nat} {k p x : Nat} (h : ∀ y ∈ U.take k, y ∉ D) (hk : U[k]? = some x) (hp : D[p]? = some x) (hn : x ∉ D.take p) : PW.path U D = U.take (k + 1) ++ (D.take p).reverse := by
  have split : ∀ {l : List Nat} {i y : Nat}, l[i]? = some y → l = l.take i ++ y :: l.drop (i + 1) := fun {l i y} e => by
    have hi : i < l.length := by
      rcases Nat.lt_or_ge i l.length with h1 | h1
      · exact h1
      · rw [List.getElem?_eq_none h1] at e; cases e
    have e2 : l[i]'hi = y := by rw [List.getElem?_eq_getElem hi] at e; exact Option.some.inj e
    rw [← e2, List.getElem_cons_drop, List.take_append_drop]
  have e1 := split hk
  have e2 := split hp
  have e3 : U.take (k + 1) = U.take k ++ [x] := by rw [List.take_add_one, hk]; rfl
  rw [e3]
  have := PW.path_some (A := U.take k) (B := D.take p) (C := U.drop (k + 1)) (D := D.drop (p + 1)) (n := x) (by rw [← e2]; exact h) hn
  rw [← e1, ← e2] at this
  rw [this]; simp
theorem path_le (U D : List Nat) : (PW.path U D).length ≤ U.length + D.length + 1 := by
  unfold PW.path
  split
  · simp
  · rw [List.length_append, List.length_cons, List.length_reverse]
    have h1 := (List.takeWhile_sublist (fun x => decide (x ∉ D)) (l := U)).length_le
    rename_i nn _
    have h2 := (List.takeWhile_sublist (fun x => decide (x ≠ nn)) (l := D)).length_le
    omega
set_option maxRecDepth 100000 in
set_option maxHeartbeats 16000000 in
theorem walk_Path (a b : Int) (hO : Ord N S.up) (rel : NRel n S N) (h : ForestOver w0 w own Fb n S) :
    Calls Try.prog 83 #[.pointer (some ⟨Fb, 0, none⟩), .int .i64 a, .int .i64 b] w (GivesInts w (ints (pathW N S.up a b))) := by
  have HF := Lib.hid h
  have hN := rel.le h.fi
  have KB := Lib.hid (walk_upO b hO rel h)
  have hUl := upsV_len hO a
  have hDl := upsV_len hO b
  have KA := Lib.hid (fun W (hW : Below w.heap.size w W) => walk_up a hO rel (HF.out.keep hW))
  unfold pathW
  obtain ⟨U, hU⟩ : ∃ U, upsV N S.up a = U := ⟨_, rfl⟩
  obtain ⟨D, hD⟩ : ∃ D, upsV N S.up b = D := ⟨_, rfl⟩
  rw [hU] at KA hUl ⊢
  rw [hD] at KB hDl ⊢
  obtain ⟨un, hun⟩ : ∃ un, U.length = un := ⟨_, rfl⟩
  obtain ⟨dn, hdn⟩ : ∃ dn, D.length = dn := ⟨_, rfl⟩
  have HUN := Lib.hid hun
  have HDN := Lib.hid hdn
  have hun4 : un ≤ 4096 := by omega
  have hdn4 : dn ≤ 4096 := by omega
  have HPL : Hid ((ints (PW.path U D)).length ≤ 9223372036854775807) := Lib.hid (by rw [ints_len]; have := path_le U D; omega)
  clear h hU hD hUl hDl hun hdn
  go_enter Try.func83, Try.ntmps83
  go_wp2_with fail
  refine KB.out.mono ?_
  rintro e w1 ⟨v1, rfl, o1, b1⟩
  obtain ⟨AD, cD, rfl, iD, hcD, hcD2⟩ := own_named2 o1 HDN.out
  have ID := Lib.hid iD
  have CD := Lib.hid hcD
  have B1 := Lib.hid b1
  clear o1 iD hcD KB b1
  go_wp2_with fail
  refine (KA.out _ B1.out).mono ?_
  rintro e w2 ⟨AU, nU, cU, rfl, iU, b2⟩
  have e2 : un = nU := by have := iU.1.1; rw [ints_len, HUN.out] at this; exact this
  subst e2
  have IU := Lib.hid iU.1
  have ID2 := Lib.hid (ID.out.keep b2)
  have B2 := Lib.hid (bel_trans B1.out b2)
  clear iU b2 KA ID
  go_wp2_with fail
  go_loopw [8, 10, 11, 12, 20] (fun v _ _ _ i wr => PathRel w2 U D v i wr) (fun _ _ _ _ i _ => un - (intOf i).toNat)
  case atStart => exact ⟨0, Nat.zero_le _, rfl, OwnI.nil _ _, fun x hx => absurd hx (by simp), Below.refl _ _⟩
  case round =>
    obtain ⟨k, hk, rfl, ho, hno, hb⟩ := hrel
    rw [HUN.out] at hk
    obtain ⟨Av, cv, hv⟩ := own_shape ho
    subst hv
    have HO1 := Lib.hid ho
    have HNO := Lib.hid hno
    have HB := Lib.hid hb
    obtain ⟨ol, hol⟩ : ∃ ol, (ints (U.take k)).length = ol := ⟨_, rfl⟩
    have hol4 : ol ≤ 4096 := by rw [← hol, ints_len, List.length_take, HUN.out]; have := Nat.min_le_right k un; omega
    rw [hol] at HO1 ⊢
    have HOL := Lib.hid hol
    have hk0 : (0 : Int) ≤ (k : Int) := by omega
    clear ho hno hb hol
    by_cases hlt : k < un
    · have hltI : (k : Int) < (un : Int) := by omega
      obtain ⟨x, hx⟩ : ∃ x, U[k]? = some x := ⟨_, List.getElem?_eq_getElem (by rw [HUN.out]; exact hlt)⟩
      have HX := Lib.hid hx
      obtain ⟨-, bU, oU, rfl, hbU, xU⟩ := ints_at (IU.out.keep HB.out) hx
      have HTK := Lib.hid (show U.take (k + 1) = U.take k ++ [x] by rw [List.take_add_one, hx]; rfl)
      have HT2 : Hid (ints (U.take k) ++ [(x : Int)] = ints (U.take (k + 1))) := Lib.hid (by rw [HTK.out, ints_app]; rfl)
      have wk : IntKind.i64.wrap ((k : Int) + 1) = ((k + 1 : Nat) : Int) := by rw [IntKind.wrap_i64]; omega
      clear hx
      go_upto_region 7 with (at_builtin; refine app_listI rfl (.tmp 24) (.tmp 26) rfl w2.heap.size _ _ rfl (HO1.out.keep (bel_alloc (Below.refl _ _) _)) (some ⟨wr.heap.size, 0, none⟩) 1 1 [(x : Int)] rfl (src_oneI (by simp [go_sem])) (by rw [HOL.out]; omega) (by have := HB.out.size; simp; omega) ?_; intro V9 W8 ho9 hb9; rw [HT2.out] at ho9; have HO9 := Lib.hid ho9; have B9 := Lib.hid ((bel_alloc HB.out _).trans hb9); clear ho9 hb9)
      have ID8 := ID2.out.keep B9.out
      have KI := Lib.hid (slices_IndexI cD (x : Int) ID8)
      by_cases hm : x ∈ D
      · obtain ⟨p, hp, hpe, hpn, hpg⟩ := PG.place_mem (in_ints.2 hm)
        rw [hpe] at KI
        rw [ints_len, HDN.out] at hp
        have hpD : D[p]? = some x := by
          have hpl : p < D.length := by rw [HDN.out]; exact hp
          rw [List.getElem?_eq_getElem hpl]
          have e : (ints D).getD p 0 = ((D[p] : Nat) : Int) := by simp [ints, List.getD, hpl]
          rw [e] at hpg
          congr 1; omega
        have hpn2 : x ∉ D.take p := fun hh => hpn (by
          have e : (ints D).take p = ints (D.take p) := by simp [ints, List.map_take]
          rw [e]; exact in_ints.2 hh)
        have HPATH := Lib.hid (path_hit HNO.out HX.out hpD hpn2)
        have hI : ∃ bD oD, AD = some ⟨bD, oD, none⟩ := by
          obtain ⟨bD, oD, e, _⟩ := ID8.2.2 (by omega)
          exact ⟨bD, oD, e⟩
        obtain ⟨bD, oD, rfl⟩ := hI
        have IF := Lib.hid (ID8.first (Nat.le_of_lt hp))
        have hpc : p ≤ cD := by have := CD.out; omega
        have q0 : (0 : Int) ≤ (p : Int) := by omega
        have q1 : (p : Int) ≤ (cD : Int) := by omega
        have HP4 : Hid (p ≤ 4096) := Lib.hid (by omega)
        have HREV : Hid ((ints D).take p = ints (D.take p)) := Lib.hid (by simp [ints, List.map_take])
        clear hm hp hpe hpn hpg hpD hpn2 ID8 xU hbU
        go_wp2_with fail
        refine KI.out.mono ?_
        rintro e w10 ⟨rfl, b10⟩
        have KCL := Lib.hid (slices_CloneI cD (IF.out.keep b10) (by have := HP4.out; omega))
        have HO10 := Lib.hid (HO9.out.keep b10)
        have B10 := Lib.hid (bel_trans' B9.out b10 B9.out.size)
        clear b10 KI
        go_wp2_with fail
        refine KCL.out.mono ?_
        rintro e w11 ⟨v11, rfl, o11, b11⟩
        rw [HREV.out] at o11
        have KRV := Lib.hid (slices_ReverseI o11)
        obtain ⟨A11, c11, rfl, i11, -⟩ := o11.ints
        have B11 := Lib.hid b11
        obtain ⟨rl, hrl⟩ : ∃ rl, (ints (D.take p)).length = rl := ⟨_, rfl⟩
        rw [hrl] at KRV ⊢
        have HRL := Lib.hid hrl
        have hrl4 : rl ≤ 4096 := by rw [← hrl, ints_len, List.length_take]; have := HP4.out; have := Nat.min_le_left p D.length; omega
        clear b11 KCL o11 i11 hrl
        go_wp2_with fail
        refine KRV.out.mono ?_
        rintro e w12 ⟨rfl, o12, b12⟩
        have HO12 := Lib.hid (HO10.out.keep (B11.out.trans b12))
        have B12 := Lib.hid (bel_trans' B10.out (B11.out.trans b12) B10.out.size)
        have I12 : Hid (IntsAt w12 A11 rl (ints (D.take p).reverse)) := Lib.hid (by
          have := o12.intsV
          rw [List.length_reverse, HRL.out] at this
          have e : (ints (D.take p)).reverse = ints (D.take p).reverse := by simp [ints]
          rwa [e] at this)
        have HT5 : Hid (ints (U.take (k + 1)) ++ ints (D.take p).reverse = ints (PW.path U D)) := Lib.hid (by rw [HPATH.out, ints_app])
        have HOL9 : Hid ((ints (U.take (k + 1))).length ≤ 4097) := Lib.hid (by rw [ints_len, List.length_take]; have := HUN.out; have := Nat.min_le_right (k + 1) U.length; omega)
        obtain ⟨A9, c9, h9⟩ := own_shape HO12.out
        subst h9
        clear o12 b12 KRV
        go_wp2_with (at_builtin; refine app_listI rfl (.tmp 39) (.tmp 40) rfl w2.heap.size _ _ rfl HO12.out A11 rl c11 _ rfl I12.out.srcI (by have := HOL9.out; omega) B12.out.size ?_; intro V13 w13 ho13 hb13; rw [HT5.out] at ho13; obtain ⟨A13, c13, h13⟩ := own_shape ho13; subst h13; have HO13 := Lib.hid ho13; have B13 := Lib.hid (B12.out.trans hb13); clear ho13 hb13)
        go_ret
        exact own_gives (HO13.out.mono B2.out.size) HPL.out (bel_trans B2.out B13.out)
      · have hnm : (x : Int) ∉ ints D := fun hh => hm (in_ints.1 hh)
        rw [PG.place_none hnm] at KI
        have HNO2 : Hid (∀ y ∈ U.take (k + 1), y ∉ D) := Lib.hid (fun y hy => by
          rw [HTK.out, List.mem_append, List.mem_singleton] at hy
          rcases hy with hy | rfl
          · exact HNO.out y hy
          · exact hm)
        clear hm hnm ID8 xU hbU
        go_wp2_with fail
        refine KI.out.mono ?_
        rintro e w10 ⟨rfl, b10⟩
        have HO10 := Lib.hid (HO9.out.keep b10)
        have B10 := Lib.hid (bel_trans' B9.out b10 B9.out.size)
        clear b10 KI
        go_wp2_with fail
        go_roundw
        case rel => exact ⟨k + 1, by rw [HUN.out]; omega, rfl, HO10.out, HNO2.out, B10.out⟩
        case measure => simp [intOf]; omega
    · have hkn : k = un := by omega
      have hltI : ¬ (k : Int) < (un : Int) := by omega
      have HE : Hid (PW.path U D = []) := Lib.hid (PW.path_none (fun x hx => HNO.out x (by rw [List.take_of_length_le (by rw [HUN.out]; omega)]; exact hx)))
      clear hkn
      go_wp2_with fail
      go_ret
      exact own_gives (by rw [HE.out]; exact OwnI.nil _ _) HPL.out (bel_trans B2.out HB.out)
end Go.Proofs.Ytdhcmnbajkpjiaa
/-
  Layer 38 (walk): the reference's Path.
-/
namespace Go.Proofs.Ytdhcmnbajkpjiaa
open Go.RowKit
open Go.Maps
set_option linter.unusedVariables false
set_option linter.unusedSimpArgs false
attribute [local go_sem] drewN_alloc drewN_setCell

variable {w0 w w' : World} {P : Nat → Prop} {V : Value} {n : Nat} {g : List Int} {O cl : List Nat} {fr : Nat} {N : List Nat} {up : List Int}
theorem topV_in (hO : Ord N up) {a b : Int} {z : Nat} (ha : z ∈ upsV N up a) (hb : z ∈ upsV N up b) : topV N up a = topV N up b := by
  have key : ∀ {x : Int} {y : Nat}, y ∈ upsV N up x → topV N up x = topV N up (y : Int) ∧ y ∈ N := fun {x y} hy => by
    unfold upsV at hy
    split at hy
    · rename_i hx
      have hyN := PW.ups_in hO.is hx.2 y hy
      obtain ⟨A, C, e⟩ := List.append_of_mem hy
      have h2 := PW.ups_tail hO.is hx.2 A C e
      refine ⟨?_, hyN⟩
      unfold topV lastV upsV
      rw [if_pos hx, if_pos (is_node hyN), e]
      simp only [Int.toNat_natCast]
      rw [← h2, List.getLast?_append, List.getLast?_cons]
      rfl
    · simp at hy
  rw [(key ha).1, (key hb).1]
def UpRelR (W0 : World) (U : List Nat) (k0 : Nat) (x v : Value) (wr : World) : Prop :=
  ∃ k z : Nat, k ≤ k0 ∧ U[k]? = some z ∧ x = .int .i64 (z : Int) ∧ OwnI W0.heap.size wr v (ints (U.take (k + 1))) ∧ Below W0.heap.size W0 wr
def DownRel (W0 : World) (A Z : List Nat) (x v : Value) (wr : World) : Prop :=
  ∃ m z : Nat, Z[m]? = some z ∧ x = .int .i64 (z : Int) ∧ OwnI W0.heap.size wr v (ints (A ++ Z.take (m + 1))) ∧ Below W0.heap.size W0 wr
def ScanRel (W0 : World) (L : List Nat) (z c : Nat) (x i : Value) (wr : World) : Prop :=
  ∃ j : Nat, j ≤ L.length ∧ i = .int .i64 (j : Nat) ∧ x = .int .i64 ((if c ∈ L.take j then c else z : Nat) : Int) ∧ Below W0.heap.size W0 wr
/-- The way down: each one's child that leads to the end. -/
theorem down_step (hO : Ord N up) {b : Nat} (hb : b ∈ N) {B C : List Nat} {n : Nat} (e : PW.ups (parW up) (dpW N) b = B ++ n :: C) {m z : Nat} (hz : (n :: B.reverse)[m]? = some z) :
    (z = b ∧ m = B.length) ∨ ∃ c, (n :: B.reverse)[m + 1]? = some c ∧ c ∈ childW N up z ∧ z ≠ b ∧ z ∈ N ∧ ∀ y ∈ childW N up z, y ∈ PW.ups (parW up) (dpW N) b → y = c := by
  have nd := PW.ups_nodup hO.is hb
  have hm : m ≤ B.length := by
    rcases Nat.lt_or_ge m (n :: B.reverse).length with h1 | h1
    · simp at h1; omega
    · rw [List.getElem?_eq_none h1] at hz; cases hz
  -- the way up, from its end
  have hU : ∀ i, i ≤ B.length → (n :: B.reverse)[i]? = (PW.ups (parW up) (dpW N) b)[B.length - i]? := fun i hi => by
    rw [e]
    cases i with
    | zero => simp
    | succ i =>
      rw [List.getElem?_cons_succ, List.getElem?_reverse (by omega), List.getElem?_append_left (by omega)]
      congr 1; omega
  obtain ⟨t, ht⟩ : ∃ t, B.length - m = t := ⟨_, rfl⟩
  rw [hU m hm, ht] at hz
  cases t with
  | zero =>
    left
    refine ⟨?_, by omega⟩
    rw [PW.ups_eq hO.is hb] at hz
    simpa using hz.symm
  | succ t =>
    right
    have hlt : t + 1 < (PW.ups (parW up) (dpW N) b).length := by
      rcases Nat.lt_or_ge (t + 1) (PW.ups (parW up) (dpW N) b).length with h1 | h1
      · exact h1
      · rw [List.getElem?_eq_none h1] at hz; cases hz
    have hc : (PW.ups (parW up) (dpW N) b)[t]? = some ((PW.ups (parW up) (dpW N) b)[t]'(by omega)) := List.getElem?_eq_getElem (by omega)
    obtain ⟨c, hcc⟩ : ∃ c, (PW.ups (parW up) (dpW N) b)[t]'(by omega) = c := ⟨_, rfl⟩
    rw [hcc] at hc
    have hcU : c ∈ PW.ups (parW up) (dpW N) b := List.mem_of_getElem? hc
    have hcN := PW.ups_in hO.is hb c hcU
    have hzU : z ∈ PW.ups (parW up) (dpW N) b := List.mem_of_getElem? hz
    have hzN := PW.ups_in hO.is hb z hzU
    -- behind c stands c's parent, which is z
    have hsp : PW.ups (parW up) (dpW N) b = (PW.ups (parW up) (dpW N) b).take t ++ c :: (PW.ups (parW up) (dpW N) b).drop (t + 1) := by
      rw [← hcc, List.getElem_cons_drop, List.take_append_drop]
    have htl := PW.ups_tail hO.is hb _ _ hsp
    have hd : ((PW.ups (parW up) (dpW N) b).drop (t + 1))[0]? = some z := by rw [List.getElem?_drop]; exact hz
    have hpar : parW up c = some z := by
      cases hp : parW up c with
      | none => rw [PW.ups_none hO.is hcN hp] at htl; injection htl with _ h2; rw [h2] at hd; cases hd
      | some p =>
        rw [PW.ups_some hO.is hcN hp] at htl
        injection htl with _ h2
        rw [h2, PW.ups_eq hO.is (hO.is.pi c p hcN hp)] at hd
        have : p = z := by simpa using hd
        rw [this]
    refine ⟨c, by rw [hU (m + 1) (by omega), show B.length - (m + 1) = t by omega]; exact hc, (hO.is.kp z c).2 ⟨hcN, hpar⟩, fun hzb => ?_, hzN, fun y hy hyU => ?_⟩
    · have h0 : (PW.ups (parW up) (dpW N) b)[0]? = some b := by rw [PW.ups_eq hO.is hb]; rfl
      rw [hzb] at hz
      have e1 := List.Nodup.idxOf_getElem nd 0 (by omega)
      have e2 := List.Nodup.idxOf_getElem nd (t + 1) hlt
      rw [List.getElem?_eq_getElem hlt] at hz
      rw [List.getElem?_eq_getElem (by omega)] at h0
      rw [Option.some.inj h0] at e1
      rw [Option.some.inj hz] at e2
      omega
    · have hk := (hO.is.kp z y).1 hy
      rcases PW.ups_two hO.is hb hyU hcU with h1 | h1
      · rw [PW.ups_some hO.is hcN hpar, List.mem_cons] at h1
        rcases h1 with h1 | h1
        · exact h1
        · have := PW.ups_dp hO.is hzN y h1
          have := hO.is.hd y z hk.1 hk.2
          omega
      · rw [PW.ups_some hO.is hk.1 hk.2, List.mem_cons] at h1
        rcases h1 with h1 | h1
        · exact h1.symm
        · have := PW.ups_dp hO.is hzN c h1
          have := hO.is.hd c z hcN hpar
          omega
set_option maxRecDepth 100000 in
theorem ref38_Path_nil (a b : Int) (hO : Ord N up) (hN : N.length ≤ 4096) (h : RefF P w V n g O cl fr N up) (hno : ¬ ((0 ≤ a ∧ a.toNat ∈ N) ∧ (0 ≤ b ∧ b.toNat ∈ N) ∧ topV N up a = topV N up b)) : Calls Try.prog 84 #[V, .int .i64 a, .int .i64 b] w (GivesInts w (ints [])) := by
  have hh := h
  obtain ⟨Ao, co, Ag, cg, Ac, cc, An, cn, Ap, cp, rfl, h1, h2, h3⟩ := h
  obtain ⟨m, hml⟩ : ∃ m, cl.length = m := ⟨_, rfl⟩
  rw [hml] at hh ⊢
  obtain ⟨w0, hw0⟩ : ∃ w0, w.alloc (.cells #[.slice Ao n co, .slice Ag n cg, .slice Ac m cc, .int .i64 (fr : Int), .slice An N.length cn, .slice Ap N.length cp] 58) = w0 := ⟨_, rfl⟩
  have r0 : RowAt w0 w.heap.size 58 [.slice Ao n co, .slice Ag n cg, .slice Ac m cc, .int .i64 (fr : Int), .slice An N.length cn, .slice Ap N.length cp] := by rw [← hw0]; exact RowAt.new w 58 _
  have b0 : Below w.heap.size w w0 := by rw [← hw0]; exact (by repeat (first | exact Below.refl _ _ | assumption | refine bel_drew ?_ | refine bel_drewN ?_ _ | refine bel_alloc ?_ _ | refine bel_set ?_ (by first | (dsimp only; omega) | (simp; done) | (simp; omega)) _ | refine bel_trans ?_ (by assumption)))
  have R0 := Lib.hid r0
  have B0 := Lib.hid b0
  have HW0 := Lib.hid hw0
  have HH := Lib.hid (hh.keep b0)
  clear h1 h2 h3 hml b0 hh hw0 r0
  have KA := Lib.hid (fun W (hW : Below w0.heap.size w0 W) => ref37_At a (HH.out.keep hW))
  have KB := Lib.hid (fun W (hW : Below w0.heap.size w0 W) => ref37_At b (HH.out.keep hW))
  have KTA := Lib.hid (fun W (hW : Below w0.heap.size w0 W) => ref38_Top a hO hN (HH.out.keep hW))
  have KTB := Lib.hid (fun W (hW : Below w0.heap.size w0 W) => ref38_Top b hO hN (HH.out.keep hW))
  have R0' := R0.out
  have hS : Hid (∀ W : World, Below w0.heap.size w0 W → (fun W : World => W.cell? ⟨w.heap.size, 0, none⟩ = some (.slice Ao n co) ∧ W.cell? ⟨w.heap.size, 1, none⟩ = some (.slice Ag n cg) ∧ W.cell? ⟨w.heap.size, 2, none⟩ = some (.slice Ac m cc) ∧ W.cell? ⟨w.heap.size, 3, none⟩ = some (.int .i64 (fr : Int)) ∧ W.cell? ⟨w.heap.size, 4, none⟩ = some (.slice An N.length cn) ∧ W.cell? ⟨w.heap.size, 5, none⟩ = some (.slice Ap N.length cp)) W) := Lib.hid (fun W hW => ⟨(hW.cell (p := ⟨w.heap.size, 0, none⟩) R0'.lt).trans ((R0'.cell 0).trans rfl), (hW.cell (p := ⟨w.heap.size, 1, none⟩) R0'.lt).trans ((R0'.cell 1).trans rfl), (hW.cell (p := ⟨w.heap.size, 2, none⟩) R0'.lt).trans ((R0'.cell 2).trans rfl), (hW.cell (p := ⟨w.heap.size, 3, none⟩) R0'.lt).trans ((R0'.cell 3).trans rfl), (hW.cell (p := ⟨w.heap.size, 4, none⟩) R0'.lt).trans ((R0'.cell 4).trans rfl), (hW.cell (p := ⟨w.heap.size, 5, none⟩) R0'.lt).trans ((R0'.cell 5).trans rfl)⟩)
  clear R0'
  by_cases ha : 0 ≤ a ∧ a.toNat ∈ N
  · have e1 : PC.place N a = (N.idxOf a.toNat : Nat) := by unfold PC.place; rw [if_pos ha]
    obtain ⟨qa, hqa⟩ : ∃ q, N.idxOf a.toNat = q := ⟨_, rfl⟩
    rw [e1, hqa] at KA
    have ga : ¬ (qa : Int) < 0 := by omega
    have ga2 : decide ((qa : Int) < 0) = false := decide_eq_false ga
    clear e1 hqa
    by_cases hb : 0 ≤ b ∧ b.toNat ∈ N
    · have e2 : PC.place N b = (N.idxOf b.toNat : Nat) := by unfold PC.place; rw [if_pos hb]
      obtain ⟨qb, hqb⟩ : ∃ q, N.idxOf b.toNat = q := ⟨_, rfl⟩
      rw [e2, hqb] at KB
      have gb : ¬ (qb : Int) < 0 := by omega
      have gb2 : decide ((qb : Int) < 0) = false := decide_eq_false gb
      have ht : ¬ topV N up a = topV N up b := fun e => hno ⟨ha, hb, e⟩
      obtain ⟨ta, hta⟩ : ∃ t, topV N up a = t := ⟨_, rfl⟩
      obtain ⟨tb, htb⟩ : ∃ t, topV N up b = t := ⟨_, rfl⟩
      rw [hta] at KTA ht
      rw [htb] at KTB ht
      have gt : (ta != tb) = true := by simpa using ht
      clear e2 hqb ht hta htb ha hb hno
      go_enter Try.func84, Try.ntmps84
      go_upto_region 1 with (fail)
      rw [HW0.out]
      obtain ⟨w1, rfl⟩ : ∃ w1, w1 = w0 := ⟨_, rfl⟩
      refine wp_region_held_drew (S := (fun W : World => W.cell? ⟨w.heap.size, 0, none⟩ = some (.slice Ao n co) ∧ W.cell? ⟨w.heap.size, 1, none⟩ = some (.slice Ag n cg) ∧ W.cell? ⟨w.heap.size, 2, none⟩ = some (.slice Ac m cc) ∧ W.cell? ⟨w.heap.size, 3, none⟩ = some (.int .i64 (fr : Int)) ∧ W.cell? ⟨w.heap.size, 4, none⟩ = some (.slice An N.length cn) ∧ W.cell? ⟨w.heap.size, 5, none⟩ = some (.slice Ap N.length cp))) (by kernel_rfl) ?_ (fun hHeld => ?_)
      focus ((try dsimp only); first | exact q9 | exact hS.out _ (by repeat (first | exact Below.refl _ _ | assumption | refine bel_drew ?_ | refine bel_drewN ?_ _ | refine bel_alloc ?_ _ | refine bel_trans ?_ (by assumption))))
      refine tk_yes 0 (v := ?_) rfl (by kernel_rfl) (by kernel_rfl) (by kernel_rfl) (fun _ _ _ h => h) (by kernel_rfl) (by assumption) ?_ ?_; rotate_left; (focus (intro w hSw; (try dsimp only at hSw); go_simp; (first | done | (with_reducible rfl)))); (try simp only [Act.put, List.setIfInBounds_toArray, List.set_cons_zero, List.set_cons_succ])
      refine tk_yes 1 (v := ?_) rfl (by kernel_rfl) (by kernel_rfl) (by kernel_rfl) (fun _ _ _ h => h) (by kernel_rfl) (by assumption) ?_ ?_; rotate_left; (focus (intro w hSw; (try dsimp only at hSw); go_simp; (first | done | (with_reducible rfl)))); (try simp only [Act.put, List.setIfInBounds_toArray, List.set_cons_zero, List.set_cons_succ])
      refine tk_call 2 rfl (by kernel_rfl) (by kernel_rfl) (fun KW hKW => ?_); go_simp; go_at_call 110; refine (KA.out _ (by repeat (first | exact Below.refl _ _ | assumption | refine bel_drew ?_ | refine bel_drewN ?_ _ | refine bel_alloc ?_ _ | refine bel_trans ?_ (by assumption)))).mono ?_; rintro e u2 ⟨rfl, hb2⟩; have B2 := bel_to (W0 := w1) (by repeat (first | exact Below.refl _ _ | assumption | refine bel_drew ?_ | refine bel_drewN ?_ _ | refine bel_alloc ?_ _ | refine bel_trans ?_ (by assumption))) hb2; have q9 := hS.out _ B2; clear hb2; refine hKW.out _ _ ?_ (fun hHeld => ?_); (focus ((try dsimp only); first | exact q9 | exact hS.out _ (by repeat (first | exact Below.refl _ _ | assumption | refine bel_drew ?_ | refine bel_drewN ?_ _ | refine bel_alloc ?_ _ | refine bel_trans ?_ (by assumption))))); clear hKW KW; (try simp only [Act.put, List.setIfInBounds_toArray, List.set_cons_zero, List.set_cons_succ])
      refine tk_yes 3 (v := ?_) rfl (by kernel_rfl) (by kernel_rfl) (by kernel_rfl) (fun _ _ _ h => h) (by kernel_rfl) (by assumption) ?_ ?_; rotate_left; (focus (intro w hSw; (try dsimp only at hSw); go_simp; (first | done | (with_reducible rfl)))); (try simp only [Act.put, List.setIfInBounds_toArray, List.set_cons_zero, List.set_cons_succ])
      refine tk_yes 4 (v := ?_) rfl (by kernel_rfl) (by kernel_rfl) (by kernel_rfl) (fun _ _ _ h => h) (by kernel_rfl) (by assumption) ?_ ?_; rotate_left; (focus (intro w hSw; (try dsimp only at hSw); go_simp; (first | done | (with_reducible rfl)))); (try simp only [Act.put, List.setIfInBounds_toArray, List.set_cons_zero, List.set_cons_succ])
      refine tk_yes 5 (v := ?_) rfl (by kernel_rfl) (by kernel_rfl) (by kernel_rfl) (fun _ _ _ h => h) (by kernel_rfl) (by assumption) ?_ ?_; rotate_left; (focus (intro w hSw; (try dsimp only at hSw); go_simp; (first | done | (with_reducible rfl)))); (try simp only [Act.put, List.setIfInBounds_toArray, List.set_cons_zero, List.set_cons_succ])
      refine tk_yes 6 (v := ?_) rfl (by kernel_rfl) (by kernel_rfl) (by kernel_rfl) (fun _ _ _ h => h) (by kernel_rfl) (by assumption) ?_ ?_; rotate_left; (focus (intro w hSw; (try dsimp only at hSw); go_simp; (first | done | (with_reducible rfl)))); (try simp only [Act.put, List.setIfInBounds_toArray, List.set_cons_zero, List.set_cons_succ])
      refine tk_call 7 rfl (by kernel_rfl) (by kernel_rfl) (fun KW hKW => ?_); go_simp; go_at_call 110; refine (KB.out _ (by repeat (first | exact Below.refl _ _ | assumption | refine bel_drew ?_ | refine bel_drewN ?_ _ | refine bel_alloc ?_ _ | refine bel_trans ?_ (by assumption)))).mono ?_; rintro e u7 ⟨rfl, hb7⟩; have B7 := bel_to (W0 := w1) (by repeat (first | exact Below.refl _ _ | assumption | refine bel_drew ?_ | refine bel_drewN ?_ _ | refine bel_alloc ?_ _ | refine bel_trans ?_ (by assumption))) hb7; have q9 := hS.out _ B7; clear hb7; refine hKW.out _ _ ?_ (fun hHeld => ?_); (focus ((try dsimp only); first | exact q9 | exact hS.out _ (by repeat (first | exact Below.refl _ _ | assumption | refine bel_drew ?_ | refine bel_drewN ?_ _ | refine bel_alloc ?_ _ | refine bel_trans ?_ (by assumption))))); clear hKW KW; (try simp only [Act.put, List.setIfInBounds_toArray, List.set_cons_zero, List.set_cons_succ])
      refine tk_yes 8 (v := ?_) rfl (by kernel_rfl) (by kernel_rfl) (by kernel_rfl) (fun _ _ _ h => h) (by kernel_rfl) (by assumption) ?_ ?_; rotate_left; (focus (intro w hSw; (try dsimp only at hSw); go_simp; (first | done | (with_reducible rfl)))); (try simp only [Act.put, List.setIfInBounds_toArray, List.set_cons_zero, List.set_cons_succ])
      refine tk_yes 9 (v := ?_) rfl (by kernel_rfl) (by kernel_rfl) (by kernel_rfl) (fun _ _ _ h => h) (by kernel_rfl) (by assumption) ?_ ?_; rotate_left; (focus (intro w hSw; (try dsimp only at hSw); go_simp; (first | done | (with_reducible rfl)))); (try simp only [Act.put, List.setIfInBounds_toArray, List.set_cons_zero, List.set_cons_succ])
      refine tk_yes 10 (v := ?_) rfl (by kernel_rfl) (by kernel_rfl) (by kernel_rfl) (fun _ _ _ h => h) (by kernel_rfl) (by assumption) ?_ ?_; rotate_left; (focus (intro w hSw; (try dsimp only at hSw); go_simp; (first | done | (with_reducible rfl)))); (try simp only [Act.put, List.setIfInBounds_toArray, List.set_cons_zero, List.set_cons_succ])
      refine tk_yes 11 (v := ?_) rfl (by kernel_rfl) (by kernel_rfl) (by kernel_rfl) (fun _ _ _ h => h) (by kernel_rfl) (by assumption) ?_ ?_; rotate_left; (focus (intro w hSw; (try dsimp only at hSw); go_simp; (first | done | (with_reducible rfl)))); (try simp only [Act.put, List.setIfInBounds_toArray, List.set_cons_zero, List.set_cons_succ])
      refine tk_yes 12 (v := ?_) rfl (by kernel_rfl) (by kernel_rfl) (by kernel_rfl) (fun _ _ _ h => h) (by kernel_rfl) (by assumption) ?_ ?_; rotate_left; (focus (intro w hSw; (try dsimp only at hSw); go_simp; (first | done | (with_reducible rfl)))); (try simp only [Act.put, List.setIfInBounds_toArray, List.set_cons_zero, List.set_cons_succ])
      refine tk_yes 14 (v := ?_) rfl (by kernel_rfl) (by kernel_rfl) (by kernel_rfl) (fun _ _ _ h => h) (by kernel_rfl) (by assumption) ?_ ?_; rotate_left; (focus (intro w hSw; (try dsimp only at hSw); go_simp; (first | done | (with_reducible rfl)))); (try simp only [Act.put, List.setIfInBounds_toArray, List.set_cons_zero, List.set_cons_succ])
      refine tk_yes 15 (v := ?_) rfl (by kernel_rfl) (by kernel_rfl) (by kernel_rfl) (fun _ _ _ h => h) (by kernel_rfl) (by assumption) ?_ ?_; rotate_left; (focus (intro w hSw; (try dsimp only at hSw); go_simp; (first | done | (with_reducible rfl)))); (try simp only [Act.put, List.setIfInBounds_toArray, List.set_cons_zero, List.set_cons_succ])
      refine tk_call 13 rfl (by kernel_rfl) (by kernel_rfl) (fun KW hKW => ?_); go_simp; go_at_call 80; refine (KTA.out _ (by repeat (first | exact Below.refl _ _ | assumption | refine bel_drew ?_ | refine bel_drewN ?_ _ | refine bel_alloc ?_ _ | refine bel_trans ?_ (by assumption)))).mono ?_; rintro e u13 ⟨rfl, hb13⟩; have B13 := bel_to (W0 := w1) (by repeat (first | exact Below.refl _ _ | assumption | refine bel_drew ?_ | refine bel_drewN ?_ _ | refine bel_alloc ?_ _ | refine bel_trans ?_ (by assumption))) hb13; have q9 := hS.out _ B13; clear hb13; refine hKW.out _ _ ?_ (fun hHeld => ?_); (focus ((try dsimp only); first | exact q9 | exact hS.out _ (by repeat (first | exact Below.refl _ _ | assumption | refine bel_drew ?_ | refine bel_drewN ?_ _ | refine bel_alloc ?_ _ | refine bel_trans ?_ (by assumption))))); clear hKW KW; (try simp only [Act.put, List.setIfInBounds_toArray, List.set_cons_zero, List.set_cons_succ])
      refine tk_call 16 rfl (by kernel_rfl) (by kernel_rfl) (fun KW hKW => ?_); go_simp; go_at_call 80; refine (KTB.out _ (by repeat (first | exact Below.refl _ _ | assumption | refine bel_drew ?_ | refine bel_drewN ?_ _ | refine bel_alloc ?_ _ | refine bel_trans ?_ (by assumption)))).mono ?_; rintro e u16 ⟨rfl, hb16⟩; have B16 := bel_to (W0 := w1) (by repeat (first | exact Below.refl _ _ | assumption | refine bel_drew ?_ | refine bel_drewN ?_ _ | refine bel_alloc ?_ _ | refine bel_trans ?_ (by assumption))) hb16; have q9 := hS.out _ B16; clear hb16; refine hKW.out _ _ ?_ (fun hHeld => ?_); (focus ((try dsimp only); first | exact q9 | exact hS.out _ (by repeat (first | exact Below.refl _ _ | assumption | refine bel_drew ?_ | refine bel_drewN ?_ _ | refine bel_alloc ?_ _ | refine bel_trans ?_ (by assumption))))); clear hKW KW; (try simp only [Act.put, List.setIfInBounds_toArray, List.set_cons_zero, List.set_cons_succ])
      refine tk_yes 17 (v := ?_) rfl (by kernel_rfl) (by kernel_rfl) (by kernel_rfl) (fun _ _ _ h => h) (by kernel_rfl) (by assumption) ?_ ?_; rotate_left; (focus (intro w hSw; (try dsimp only at hSw); go_simp; (first | done | (with_reducible rfl)))); (try simp only [Act.put, List.setIfInBounds_toArray, List.set_cons_zero, List.set_cons_succ])
      refine tk_yes 18 (v := ?_) rfl (by kernel_rfl) (by kernel_rfl) (by kernel_rfl) (fun _ _ _ h => h) (by kernel_rfl) (by assumption) ?_ ?_; rotate_left; (focus (intro w hSw; (try dsimp only at hSw); go_simp; (first | done | (with_reducible rfl)))); (try simp only [Act.put, List.setIfInBounds_toArray, List.set_cons_zero, List.set_cons_succ])
      refine wpAnyH_done (by kernel_rfl) ?_ _
      go_wp2_with fail
      go_ret
      exact own_gives (OwnI.nil _ _) (Nat.zero_le _) (bel_trans B0.out (by first | exact B16))
    · have e2 : PC.place N b = -1 := by unfold PC.place; rw [if_neg hb]
      rw [e2] at KB
      clear e2 ha hb hno
      go_enter Try.func84, Try.ntmps84
      go_upto_region 1 with (fail)
      rw [HW0.out]
      obtain ⟨w1, rfl⟩ : ∃ w1, w1 = w0 := ⟨_, rfl⟩
      refine wp_region_held_drew (S := (fun W : World => W.cell? ⟨w.heap.size, 0, none⟩ = some (.slice Ao n co) ∧ W.cell? ⟨w.heap.size, 1, none⟩ = some (.slice Ag n cg) ∧ W.cell? ⟨w.heap.size, 2, none⟩ = some (.slice Ac m cc) ∧ W.cell? ⟨w.heap.size, 3, none⟩ = some (.int .i64 (fr : Int)) ∧ W.cell? ⟨w.heap.size, 4, none⟩ = some (.slice An N.length cn) ∧ W.cell? ⟨w.heap.size, 5, none⟩ = some (.slice Ap N.length cp))) (by kernel_rfl) ?_ (fun hHeld => ?_)
      focus ((try dsimp only); first | exact q9 | exact hS.out _ (by repeat (first | exact Below.refl _ _ | assumption | refine bel_drew ?_ | refine bel_drewN ?_ _ | refine bel_alloc ?_ _ | refine bel_trans ?_ (by assumption))))
      refine tk_yes 0 (v := ?_) rfl (by kernel_rfl) (by kernel_rfl) (by kernel_rfl) (fun _ _ _ h => h) (by kernel_rfl) (by assumption) ?_ ?_; rotate_left; (focus (intro w hSw; (try dsimp only at hSw); go_simp; (first | done | (with_reducible rfl)))); (try simp only [Act.put, List.setIfInBounds_toArray, List.set_cons_zero, List.set_cons_succ])
      refine tk_yes 1 (v := ?_) rfl (by kernel_rfl) (by kernel_rfl) (by kernel_rfl) (fun _ _ _ h => h) (by kernel_rfl) (by assumption) ?_ ?_; rotate_left; (focus (intro w hSw; (try dsimp only at hSw); go_simp; (first | done | (with_reducible rfl)))); (try simp only [Act.put, List.setIfInBounds_toArray, List.set_cons_zero, List.set_cons_succ])
      refine tk_call 2 rfl (by kernel_rfl) (by kernel_rfl) (fun KW hKW => ?_); go_simp; go_at_call 110; refine (KA.out _ (by repeat (first | exact Below.refl _ _ | assumption | refine bel_drew ?_ | refine bel_drewN ?_ _ | refine bel_alloc ?_ _ | refine bel_trans ?_ (by assumption)))).mono ?_; rintro e u2 ⟨rfl, hb2⟩; have B2 := bel_to (W0 := w1) (by repeat (first | exact Below.refl _ _ | assumption | refine bel_drew ?_ | refine bel_drewN ?_ _ | refine bel_alloc ?_ _ | refine bel_trans ?_ (by assumption))) hb2; have q9 := hS.out _ B2; clear hb2; refine hKW.out _ _ ?_ (fun hHeld => ?_); (focus ((try dsimp only); first | exact q9 | exact hS.out _ (by repeat (first | exact Below.refl _ _ | assumption | refine bel_drew ?_ | refine bel_drewN ?_ _ | refine bel_alloc ?_ _ | refine bel_trans ?_ (by assumption))))); clear hKW KW; (try simp only [Act.put, List.setIfInBounds_toArray, List.set_cons_zero, List.set_cons_succ])
      refine tk_yes 3 (v := ?_) rfl (by kernel_rfl) (by kernel_rfl) (by kernel_rfl) (fun _ _ _ h => h) (by kernel_rfl) (by assumption) ?_ ?_; rotate_left; (focus (intro w hSw; (try dsimp only at hSw); go_simp; (first | done | (with_reducible rfl)))); (try simp only [Act.put, List.setIfInBounds_toArray, List.set_cons_zero, List.set_cons_succ])
      refine tk_yes 4 (v := ?_) rfl (by kernel_rfl) (by kernel_rfl) (by kernel_rfl) (fun _ _ _ h => h) (by kernel_rfl) (by assumption) ?_ ?_; rotate_left; (focus (intro w hSw; (try dsimp only at hSw); go_simp; (first | done | (with_reducible rfl)))); (try simp only [Act.put, List.setIfInBounds_toArray, List.set_cons_zero, List.set_cons_succ])
      refine tk_yes 5 (v := ?_) rfl (by kernel_rfl) (by kernel_rfl) (by kernel_rfl) (fun _ _ _ h => h) (by kernel_rfl) (by assumption) ?_ ?_; rotate_left; (focus (intro w hSw; (try dsimp only at hSw); go_simp; (first | done | (with_reducible rfl)))); (try simp only [Act.put, List.setIfInBounds_toArray, List.set_cons_zero, List.set_cons_succ])
      refine tk_yes 6 (v := ?_) rfl (by kernel_rfl) (by kernel_rfl) (by kernel_rfl) (fun _ _ _ h => h) (by kernel_rfl) (by assumption) ?_ ?_; rotate_left; (focus (intro w hSw; (try dsimp only at hSw); go_simp; (first | done | (with_reducible rfl)))); (try simp only [Act.put, List.setIfInBounds_toArray, List.set_cons_zero, List.set_cons_succ])
      refine tk_call 7 rfl (by kernel_rfl) (by kernel_rfl) (fun KW hKW => ?_); go_simp; go_at_call 110; refine (KB.out _ (by repeat (first | exact Below.refl _ _ | assumption | refine bel_drew ?_ | refine bel_drewN ?_ _ | refine bel_alloc ?_ _ | refine bel_trans ?_ (by assumption)))).mono ?_; rintro e u7 ⟨rfl, hb7⟩; have B7 := bel_to (W0 := w1) (by repeat (first | exact Below.refl _ _ | assumption | refine bel_drew ?_ | refine bel_drewN ?_ _ | refine bel_alloc ?_ _ | refine bel_trans ?_ (by assumption))) hb7; have q9 := hS.out _ B7; clear hb7; refine hKW.out _ _ ?_ (fun hHeld => ?_); (focus ((try dsimp only); first | exact q9 | exact hS.out _ (by repeat (first | exact Below.refl _ _ | assumption | refine bel_drew ?_ | refine bel_drewN ?_ _ | refine bel_alloc ?_ _ | refine bel_trans ?_ (by assumption))))); clear hKW KW; (try simp only [Act.put, List.setIfInBounds_toArray, List.set_cons_zero, List.set_cons_succ])
      refine tk_yes 8 (v := ?_) rfl (by kernel_rfl) (by kernel_rfl) (by kernel_rfl) (fun _ _ _ h => h) (by kernel_rfl) (by assumption) ?_ ?_; rotate_left; (focus (intro w hSw; (try dsimp only at hSw); go_simp; (first | done | (with_reducible rfl)))); (try simp only [Act.put, List.setIfInBounds_toArray, List.set_cons_zero, List.set_cons_succ])
      refine tk_yes 9 (v := ?_) rfl (by kernel_rfl) (by kernel_rfl) (by kernel_rfl) (fun _ _ _ h => h) (by kernel_rfl) (by assumption) ?_ ?_; rotate_left; (focus (intro w hSw; (try dsimp only at hSw); go_simp; (first | done | (with_reducible rfl)))); (try simp only [Act.put, List.setIfInBounds_toArray, List.set_cons_zero, List.set_cons_succ])
      refine tk_yes 10 (v := ?_) rfl (by kernel_rfl) (by kernel_rfl) (by kernel_rfl) (fun _ _ _ h => h) (by kernel_rfl) (by assumption) ?_ ?_; rotate_left; (focus (intro w hSw; (try dsimp only at hSw); go_simp; (first | done | (with_reducible rfl)))); (try simp only [Act.put, List.setIfInBounds_toArray, List.set_cons_zero, List.set_cons_succ])
      refine tk_no 11 rfl (by kernel_rfl) (by kernel_rfl) (by kernel_rfl) (fun _ _ _ h => h) (by kernel_rfl) (by assumption) ?_; (try simp only [Act.put, List.setIfInBounds_toArray, List.set_cons_zero, List.set_cons_succ])
      refine tk_no 12 rfl (by kernel_rfl) (by kernel_rfl) (by kernel_rfl) (fun _ _ _ h => h) (by kernel_rfl) (by assumption) ?_; (try simp only [Act.put, List.setIfInBounds_toArray, List.set_cons_zero, List.set_cons_succ])
      refine tk_no 14 rfl (by kernel_rfl) (by kernel_rfl) (by kernel_rfl) (fun _ _ _ h => h) (by kernel_rfl) (by assumption) ?_; (try simp only [Act.put, List.setIfInBounds_toArray, List.set_cons_zero, List.set_cons_succ])
      refine tk_no 15 rfl (by kernel_rfl) (by kernel_rfl) (by kernel_rfl) (fun _ _ _ h => h) (by kernel_rfl) (by assumption) ?_; (try simp only [Act.put, List.setIfInBounds_toArray, List.set_cons_zero, List.set_cons_succ])
      refine tk_no 13 rfl (by kernel_rfl) (by kernel_rfl) (by kernel_rfl) (fun _ _ _ h => h) (by kernel_rfl) (by assumption) ?_; (try simp only [Act.put, List.setIfInBounds_toArray, List.set_cons_zero, List.set_cons_succ])
      refine tk_no 16 rfl (by kernel_rfl) (by kernel_rfl) (by kernel_rfl) (fun _ _ _ h => h) (by kernel_rfl) (by assumption) ?_; (try simp only [Act.put, List.setIfInBounds_toArray, List.set_cons_zero, List.set_cons_succ])
      refine tk_no 17 rfl (by kernel_rfl) (by kernel_rfl) (by kernel_rfl) (fun _ _ _ h => h) (by kernel_rfl) (by assumption) ?_; (try simp only [Act.put, List.setIfInBounds_toArray, List.set_cons_zero, List.set_cons_succ])
      refine tk_yes 18 (v := ?_) rfl (by kernel_rfl) (by kernel_rfl) (by kernel_rfl) (fun _ _ _ h => h) (by kernel_rfl) (by assumption) ?_ ?_; rotate_left; (focus (intro w hSw; (try dsimp only at hSw); go_simp; (first | done | (with_reducible rfl)))); (try simp only [Act.put, List.setIfInBounds_toArray, List.set_cons_zero, List.set_cons_succ])
      refine wpAnyH_done (by kernel_rfl) ?_ _
      go_wp2_with fail
      go_ret
      exact own_gives (OwnI.nil _ _) (Nat.zero_le _) (bel_trans B0.out (by first | exact B7))
  · have e1 : PC.place N a = -1 := by unfold PC.place; rw [if_neg ha]
    rw [e1] at KA
    clear e1 ha hno
    go_enter Try.func84, Try.ntmps84
    go_upto_region 1 with (fail)
    rw [HW0.out]
    obtain ⟨w1, rfl⟩ : ∃ w1, w1 = w0 := ⟨_, rfl⟩
    refine wp_region_held_drew (S := (fun W : World => W.cell? ⟨w.heap.size, 0, none⟩ = some (.slice Ao n co) ∧ W.cell? ⟨w.heap.size, 1, none⟩ = some (.slice Ag n cg) ∧ W.cell? ⟨w.heap.size, 2, none⟩ = some (.slice Ac m cc) ∧ W.cell? ⟨w.heap.size, 3, none⟩ = some (.int .i64 (fr : Int)) ∧ W.cell? ⟨w.heap.size, 4, none⟩ = some (.slice An N.length cn) ∧ W.cell? ⟨w.heap.size, 5, none⟩ = some (.slice Ap N.length cp))) (by kernel_rfl) ?_ (fun hHeld => ?_)
    focus ((try dsimp only); first | exact q9 | exact hS.out _ (by repeat (first | exact Below.refl _ _ | assumption | refine bel_drew ?_ | refine bel_drewN ?_ _ | refine bel_alloc ?_ _ | refine bel_trans ?_ (by assumption))))
    refine tk_yes 0 (v := ?_) rfl (by kernel_rfl) (by kernel_rfl) (by kernel_rfl) (fun _ _ _ h => h) (by kernel_rfl) (by assumption) ?_ ?_; rotate_left; (focus (intro w hSw; (try dsimp only at hSw); go_simp; (first | done | (with_reducible rfl)))); (try simp only [Act.put, List.setIfInBounds_toArray, List.set_cons_zero, List.set_cons_succ])
    refine tk_yes 1 (v := ?_) rfl (by kernel_rfl) (by kernel_rfl) (by kernel_rfl) (fun _ _ _ h => h) (by kernel_rfl) (by assumption) ?_ ?_; rotate_left; (focus (intro w hSw; (try dsimp only at hSw); go_simp; (first | done | (with_reducible rfl)))); (try simp only [Act.put, List.setIfInBounds_toArray, List.set_cons_zero, List.set_cons_succ])
    refine tk_call 2 rfl (by kernel_rfl) (by kernel_rfl) (fun KW hKW => ?_); go_simp; go_at_call 110; refine (KA.out _ (by repeat (first | exact Below.refl _ _ | assumption | refine bel_drew ?_ | refine bel_drewN ?_ _ | refine bel_alloc ?_ _ | refine bel_trans ?_ (by assumption)))).mono ?_; rintro e u2 ⟨rfl, hb2⟩; have B2 := bel_to (W0 := w1) (by repeat (first | exact Below.refl _ _ | assumption | refine bel_drew ?_ | refine bel_drewN ?_ _ | refine bel_alloc ?_ _ | refine bel_trans ?_ (by assumption))) hb2; have q9 := hS.out _ B2; clear hb2; refine hKW.out _ _ ?_ (fun hHeld => ?_); (focus ((try dsimp only); first | exact q9 | exact hS.out _ (by repeat (first | exact Below.refl _ _ | assumption | refine bel_drew ?_ | refine bel_drewN ?_ _ | refine bel_alloc ?_ _ | refine bel_trans ?_ (by assumption))))); clear hKW KW; (try simp only [Act.put, List.setIfInBounds_toArray, List.set_cons_zero, List.set_cons_succ])
    refine tk_yes 3 (v := ?_) rfl (by kernel_rfl) (by kernel_rfl) (by kernel_rfl) (fun _ _ _ h => h) (by kernel_rfl) (by assumption) ?_ ?_; rotate_left; (focus (intro w hSw; (try dsimp only at hSw); go_simp; (first | done | (with_reducible rfl)))); (try simp only [Act.put, List.setIfInBounds_toArray, List.set_cons_zero, List.set_cons_succ])
    refine tk_yes 4 (v := ?_) rfl (by kernel_rfl) (by kernel_rfl) (by kernel_rfl) (fun _ _ _ h => h) (by kernel_rfl) (by assumption) ?_ ?_; rotate_left; (focus (intro w hSw; (try dsimp only at hSw); go_simp; (first | done | (with_reducible rfl)))); (try simp only [Act.put, List.setIfInBounds_toArray, List.set_cons_zero, List.set_cons_succ])
    refine tk_no 5 rfl (by kernel_rfl) (by kernel_rfl) (by kernel_rfl) (fun _ _ _ h => h) (by kernel_rfl) (by assumption) ?_; (try simp only [Act.put, List.setIfInBounds_toArray, List.set_cons_zero, List.set_cons_succ])
    refine tk_no 6 rfl (by kernel_rfl) (by kernel_rfl) (by kernel_rfl) (fun _ _ _ h => h) (by kernel_rfl) (by assumption) ?_; (try simp only [Act.put, List.setIfInBounds_toArray, List.set_cons_zero, List.set_cons_succ])
    refine tk_no 7 rfl (by kernel_rfl) (by kernel_rfl) (by kernel_rfl) (fun _ _ _ h => h) (by kernel_rfl) (by assumption) ?_; (try simp only [Act.put, List.setIfInBounds_toArray, List.set_cons_zero, List.set_cons_succ])
    refine tk_no 8 rfl (by kernel_rfl) (by kernel_rfl) (by kernel_rfl) (fun _ _ _ h => h) (by kernel_rfl) (by assumption) ?_; (try simp only [Act.put, List.setIfInBounds_toArray, List.set_cons_zero, List.set_cons_succ])
    refine tk_yes 9 (v := ?_) rfl (by kernel_rfl) (by kernel_rfl) (by kernel_rfl) (fun _ _ _ h => h) (by kernel_rfl) (by assumption) ?_ ?_; rotate_left; (focus (intro w hSw; (try dsimp only at hSw); go_simp; (first | done | (with_reducible rfl)))); (try simp only [Act.put, List.setIfInBounds_toArray, List.set_cons_zero, List.set_cons_succ])
    refine tk_yes 10 (v := ?_) rfl (by kernel_rfl) (by kernel_rfl) (by kernel_rfl) (fun _ _ _ h => h) (by kernel_rfl) (by assumption) ?_ ?_; rotate_left; (focus (intro w hSw; (try dsimp only at hSw); go_simp; (first | done | (with_reducible rfl)))); (try simp only [Act.put, List.setIfInBounds_toArray, List.set_cons_zero, List.set_cons_succ])
    refine tk_no 11 rfl (by kernel_rfl) (by kernel_rfl) (by kernel_rfl) (fun _ _ _ h => h) (by kernel_rfl) (by assumption) ?_; (try simp only [Act.put, List.setIfInBounds_toArray, List.set_cons_zero, List.set_cons_succ])
    refine tk_no 12 rfl (by kernel_rfl) (by kernel_rfl) (by kernel_rfl) (fun _ _ _ h => h) (by kernel_rfl) (by assumption) ?_; (try simp only [Act.put, List.setIfInBounds_toArray, List.set_cons_zero, List.set_cons_succ])
    refine tk_no 14 rfl (by kernel_rfl) (by kernel_rfl) (by kernel_rfl) (fun _ _ _ h => h) (by kernel_rfl) (by assumption) ?_; (try simp only [Act.put, List.setIfInBounds_toArray, List.set_cons_zero, List.set_cons_succ])
    refine tk_no 15 rfl (by kernel_rfl) (by kernel_rfl) (by kernel_rfl) (fun _ _ _ h => h) (by kernel_rfl) (by assumption) ?_; (try simp only [Act.put, List.setIfInBounds_toArray, List.set_cons_zero, List.set_cons_succ])
    refine tk_no 13 rfl (by kernel_rfl) (by kernel_rfl) (by kernel_rfl) (fun _ _ _ h => h) (by kernel_rfl) (by assumption) ?_; (try simp only [Act.put, List.setIfInBounds_toArray, List.set_cons_zero, List.set_cons_succ])
    refine tk_no 16 rfl (by kernel_rfl) (by kernel_rfl) (by kernel_rfl) (fun _ _ _ h => h) (by kernel_rfl) (by assumption) ?_; (try simp only [Act.put, List.setIfInBounds_toArray, List.set_cons_zero, List.set_cons_succ])
    refine tk_no 17 rfl (by kernel_rfl) (by kernel_rfl) (by kernel_rfl) (fun _ _ _ h => h) (by kernel_rfl) (by assumption) ?_; (try simp only [Act.put, List.setIfInBounds_toArray, List.set_cons_zero, List.set_cons_succ])
    refine tk_yes 18 (v := ?_) rfl (by kernel_rfl) (by kernel_rfl) (by kernel_rfl) (fun _ _ _ h => h) (by kernel_rfl) (by assumption) ?_ ?_; rotate_left; (focus (intro w hSw; (try dsimp only at hSw); go_simp; (first | done | (with_reducible rfl)))); (try simp only [Act.put, List.setIfInBounds_toArray, List.set_cons_zero, List.set_cons_succ])
    refine wpAnyH_done (by kernel_rfl) ?_ _
    go_wp2_with fail
    go_ret
    exact own_gives (OwnI.nil _ _) (Nat.zero_le _) (bel_trans B0.out (by first | exact B2))
end Go.Proofs.Ytdhcmnbajkpjiaa
/-
  Layer 38 (walk): the reference's Path, from a node to another one of the same tree.
-/
namespace Go.Proofs.Ytdhcmnbajkpjiaa
open Go.RowKit
open Go.Maps
set_option linter.unusedVariables false
set_option linter.unusedSimpArgs false
attribute [local go_sem] drewN_alloc drewN_setCell

variable {w0 w w' : World} {P : Nat → Prop} {V : Value} {n : Nat} {g : List Int} {O cl : List Nat} {fr : Nat} {N : List Nat} {up : List Int}
theorem up_at (hO : Ord N up) {a : Int} (ha : 0 ≤ a ∧ a.toNat ∈ N) {k z y : Nat} (hz : (upsV N up a)[k]? = some z) (hy : (upsV N up a)[k + 1]? = some y) : upN N up (z : Int) = (y : Int) ∧ z ∈ N := by
  unfold upsV at hz hy
  rw [if_pos ha] at hz hy
  have hzN := PW.ups_in hO.is ha.2 z (List.mem_of_getElem? hz)
  have hlt : k < (PW.ups (parW up) (dpW N) a.toNat).length := by
    rcases Nat.lt_or_ge k (PW.ups (parW up) (dpW N) a.toNat).length with h1 | h1
    · exact h1
    · rw [List.getElem?_eq_none h1] at hz; cases hz
  have hg : (PW.ups (parW up) (dpW N) a.toNat)[k]'hlt = z := by rw [List.getElem?_eq_getElem hlt] at hz; exact Option.some.inj hz
  have hsp : PW.ups (parW up) (dpW N) a.toNat = (PW.ups (parW up) (dpW N) a.toNat).take k ++ z :: (PW.ups (parW up) (dpW N) a.toNat).drop (k + 1) := by
    rw [← hg, List.getElem_cons_drop, List.take_append_drop]
  have htl := PW.ups_tail hO.is ha.2 _ _ hsp
  have hd : ((PW.ups (parW up) (dpW N) a.toNat).drop (k + 1))[0]? = some y := by rw [List.getElem?_drop]; exact hy
  refine ⟨?_, hzN⟩
  unfold upN
  rw [if_pos (is_node hzN)]
  simp only [Int.toNat_natCast]
  cases hp : parW up z with
  | none => rw [PW.ups_none hO.is hzN hp] at htl; injection htl with _ h2; rw [h2] at hd; cases hd
  | some p =>
    rw [PW.ups_some hO.is hzN hp] at htl
    injection htl with _ h2
    rw [h2, PW.ups_eq hO.is (hO.is.pi z p hzN hp)] at hd
    have e : p = y := by simpa using hd
    rw [← e]; exact parW_some.1 hp
theorem in_way (hO : Ord N up) (b : Int) (q : Nat) : inW N up b (q : Int) = decide (q ∈ upsV N up b) := by
  rw [← in_ups hO]
  exact decide_eq_decide.2 in_ints
theorem getElem?_lt {l : List Nat} {k z : Nat} (h : l[k]? = some z) : k < l.length := by
  rcases Nat.lt_or_ge k l.length with h1 | h1
  · exact h1
  · rw [List.getElem?_eq_none h1] at h; cases h
set_option maxRecDepth 100000 in
set_option maxHeartbeats 16000000 in
theorem ref38_Path_way (a b : Int) (ha : 0 ≤ a ∧ a.toNat ∈ N) (hb : 0 ≤ b ∧ b.toNat ∈ N) (hT : topV N up a = topV N up b) {A B C : List Nat} {nn : Nat} (eA : upsV N up a = A ++ nn :: C) (eB : upsV N up b = B ++ nn :: C) (hAB : ∀ x ∈ A, x ∉ upsV N up b)
    (hO : Ord N up) (hN : N.length ≤ 4096) (h : RefF P w V n g O cl fr N up) : Calls Try.prog 84 #[V, .int .i64 a, .int .i64 b] w (GivesInts w (ints (A ++ nn :: B.reverse))) := by
  have hUL := upsV_len hO a
  have hDL := upsV_len hO b
  have hh := h
  obtain ⟨Ao, co, Ag, cg, Ac, cc, An, cn, Ap, cp, rfl, h1, h2, h3⟩ := h
  obtain ⟨m, hml⟩ : ∃ m, cl.length = m := ⟨_, rfl⟩
  rw [hml] at hh ⊢
  obtain ⟨w0, hw0⟩ : ∃ w0, w.alloc (.cells #[.slice Ao n co, .slice Ag n cg, .slice Ac m cc, .int .i64 (fr : Int), .slice An N.length cn, .slice Ap N.length cp] 58) = w0 := ⟨_, rfl⟩
  have r0 : RowAt w0 w.heap.size 58 [.slice Ao n co, .slice Ag n cg, .slice Ac m cc, .int .i64 (fr : Int), .slice An N.length cn, .slice Ap N.length cp] := by rw [← hw0]; exact RowAt.new w 58 _
  have b0 : Below w.heap.size w w0 := by rw [← hw0]; exact (by repeat (first | exact Below.refl _ _ | assumption | refine bel_drew ?_ | refine bel_drewN ?_ _ | refine bel_alloc ?_ _ | refine bel_set ?_ (by first | (dsimp only; omega) | (simp; done) | (simp; omega)) _ | refine bel_trans ?_ (by assumption)))
  have R0 := Lib.hid r0
  have B0 := Lib.hid b0
  have HW0 := Lib.hid hw0
  have HH := Lib.hid (hh.keep b0)
  clear h1 h2 h3 hml b0 hh hw0 r0
  obtain ⟨an, han⟩ : ∃ p : Nat, a = (p : Int) := ⟨a.toNat, by omega⟩
  obtain ⟨bn, hbn⟩ : ∃ p : Nat, b = (p : Int) := ⟨b.toNat, by omega⟩
  subst han
  subst hbn
  have HDS : Hid (∀ m z : Nat, (nn :: B.reverse)[m]? = some z → (z = bn ∧ m = B.length) ∨ ∃ c, (nn :: B.reverse)[m + 1]? = some c ∧ c ∈ childW N up z ∧ z ≠ bn ∧ z ∈ N ∧ ∀ y ∈ childW N up z, y ∈ upsV N up (bn : Int) → y = c) := Lib.hid (fun m z hz => by
    have eB2 := eB
    unfold upsV at eB2 ⊢
    rw [if_pos hb] at eB2 ⊢
    simp only [Int.toNat_natCast] at eB2 ⊢
    exact down_step hO (by simpa using hb.2) eB2 hz)
  have HUP : Hid (∀ k z y : Nat, (A ++ nn :: C)[k]? = some z → (A ++ nn :: C)[k + 1]? = some y → upN N up (z : Int) = (y : Int) ∧ z ∈ N) := Lib.hid (fun k z y h1 h2 => by
    rw [← eA] at h1 h2; exact up_at hO ha h1 h2)
  have HU0 : Hid ((A ++ nn :: C)[0]? = some an) := Lib.hid (by
    rw [← eA, upsV_yes hO ha]; simp)
  have HND : Hid (nn ∈ upsV N up (bn : Int)) := Lib.hid (by rw [eB]; simp)
  have HZD : Hid (∀ c ∈ nn :: B.reverse, c ∈ upsV N up (bn : Int)) := Lib.hid (fun c hc => by rw [eB]; simp at hc ⊢; rcases hc with hc | hc <;> simp [hc])
  have HAB := Lib.hid hAB
  have hlA : A.length + B.length ≤ 8192 := by rw [eA] at hUL; rw [eB] at hDL; rw [List.length_append] at hUL hDL; omega
  have KA := Lib.hid (fun W (hW : Below w0.heap.size w0 W) => ref37_At (an : Int) (HH.out.keep hW))
  have KB := Lib.hid (fun W (hW : Below w0.heap.size w0 W) => ref37_At (bn : Int) (HH.out.keep hW))
  have KTA := Lib.hid (fun W (hW : Below w0.heap.size w0 W) => ref38_Top (an : Int) hO hN (HH.out.keep hW))
  have KTB := Lib.hid (fun W (hW : Below w0.heap.size w0 W) => ref38_Top (bn : Int) hO hN (HH.out.keep hW))
  have KW := Lib.hid (fun W (hW : Below w0.heap.size w0 W) (q : Nat) => ref38_Within (bn : Int) (q : Int) hO hN (HH.out.keep hW))
  have R0' := R0.out
  have hS : Hid (∀ W : World, Below w0.heap.size w0 W → (fun W : World => W.cell? ⟨w.heap.size, 0, none⟩ = some (.slice Ao n co) ∧ W.cell? ⟨w.heap.size, 1, none⟩ = some (.slice Ag n cg) ∧ W.cell? ⟨w.heap.size, 2, none⟩ = some (.slice Ac m cc) ∧ W.cell? ⟨w.heap.size, 3, none⟩ = some (.int .i64 (fr : Int)) ∧ W.cell? ⟨w.heap.size, 4, none⟩ = some (.slice An N.length cn) ∧ W.cell? ⟨w.heap.size, 5, none⟩ = some (.slice Ap N.length cp)) W) := Lib.hid (fun W hW => ⟨(hW.cell (p := ⟨w.heap.size, 0, none⟩) R0'.lt).trans ((R0'.cell 0).trans rfl), (hW.cell (p := ⟨w.heap.size, 1, none⟩) R0'.lt).trans ((R0'.cell 1).trans rfl), (hW.cell (p := ⟨w.heap.size, 2, none⟩) R0'.lt).trans ((R0'.cell 2).trans rfl), (hW.cell (p := ⟨w.heap.size, 3, none⟩) R0'.lt).trans ((R0'.cell 3).trans rfl), (hW.cell (p := ⟨w.heap.size, 4, none⟩) R0'.lt).trans ((R0'.cell 4).trans rfl), (hW.cell (p := ⟨w.heap.size, 5, none⟩) R0'.lt).trans ((R0'.cell 5).trans rfl)⟩)
  have e1 : PC.place N (an : Int) = (N.idxOf (an : Int).toNat : Nat) := by unfold PC.place; rw [if_pos ha]
  obtain ⟨qa, hqa⟩ : ∃ q, N.idxOf (an : Int).toNat = q := ⟨_, rfl⟩
  rw [e1, hqa] at KA
  have ga : ¬ (qa : Int) < 0 := by omega
  have ga2 : decide ((qa : Int) < 0) = false := decide_eq_false ga
  have e2 : PC.place N (bn : Int) = (N.idxOf (bn : Int).toNat : Nat) := by unfold PC.place; rw [if_pos hb]
  obtain ⟨qb, hqb⟩ : ∃ q, N.idxOf (bn : Int).toNat = q := ⟨_, rfl⟩
  rw [e2, hqb] at KB
  have gb : ¬ (qb : Int) < 0 := by omega
  have gb2 : decide ((qb : Int) < 0) = false := decide_eq_false gb
  obtain ⟨ta, hta⟩ : ∃ t, topV N up (bn : Int) = t := ⟨_, rfl⟩
  rw [hT, hta] at KTA
  rw [hta] at KTB
  obtain ⟨al, hal⟩ : ∃ al, A.length = al := ⟨_, rfl⟩
  obtain ⟨bl, hbl⟩ : ∃ bl, B.length = bl := ⟨_, rfl⟩
  have HAL := Lib.hid hal
  have HBL := Lib.hid hbl
  rw [hal, hbl] at hlA
  clear e1 e2 hqa hqb hta hT ha hb eA eB hAB hUL hDL hal hbl R0'
  go_enter Try.func84, Try.ntmps84
  go_upto_region 1 with (fail)
  rw [HW0.out]
  obtain ⟨w1, rfl⟩ : ∃ w1, w1 = w0 := ⟨_, rfl⟩
  refine wp_region_held_drew (S := (fun W : World => W.cell? ⟨w.heap.size, 0, none⟩ = some (.slice Ao n co) ∧ W.cell? ⟨w.heap.size, 1, none⟩ = some (.slice Ag n cg) ∧ W.cell? ⟨w.heap.size, 2, none⟩ = some (.slice Ac m cc) ∧ W.cell? ⟨w.heap.size, 3, none⟩ = some (.int .i64 (fr : Int)) ∧ W.cell? ⟨w.heap.size, 4, none⟩ = some (.slice An N.length cn) ∧ W.cell? ⟨w.heap.size, 5, none⟩ = some (.slice Ap N.length cp))) (by kernel_rfl) ?_ (fun hHeld => ?_)
  focus ((try dsimp only); first | exact q9 | exact hS.out _ (by repeat (first | exact Below.refl _ _ | assumption | refine bel_drew ?_ | refine bel_drewN ?_ _ | refine bel_alloc ?_ _ | refine bel_trans ?_ (by assumption))))
  refine tk_yes 0 (v := ?_) rfl (by kernel_rfl) (by kernel_rfl) (by kernel_rfl) (fun _ _ _ h => h) (by kernel_rfl) (by assumption) ?_ ?_; rotate_left; (focus (intro w hSw; (try dsimp only at hSw); go_simp; (first | done | (with_reducible rfl)))); (try simp only [Act.put, List.setIfInBounds_toArray, List.set_cons_zero, List.set_cons_succ])
  refine tk_yes 1 (v := ?_) rfl (by kernel_rfl) (by kernel_rfl) (by kernel_rfl) (fun _ _ _ h => h) (by kernel_rfl) (by assumption) ?_ ?_; rotate_left; (focus (intro w hSw; (try dsimp only at hSw); go_simp; (first | done | (with_reducible rfl)))); (try simp only [Act.put, List.setIfInBounds_toArray, List.set_cons_zero, List.set_cons_succ])
  refine tk_call 2 rfl (by kernel_rfl) (by kernel_rfl) (fun KW hKW => ?_); go_simp; go_at_call 110; refine (KA.out _ (by repeat (first | exact Below.refl _ _ | assumption | refine bel_drew ?_ | refine bel_drewN ?_ _ | refine bel_alloc ?_ _ | refine bel_trans ?_ (by assumption)))).mono ?_; rintro e u2 ⟨rfl, hb2⟩; have B2 := bel_to (W0 := w1) (by repeat (first | exact Below.refl _ _ | assumption | refine bel_drew ?_ | refine bel_drewN ?_ _ | refine bel_alloc ?_ _ | refine bel_trans ?_ (by assumption))) hb2; have q9 := hS.out _ B2; clear hb2; refine hKW.out _ _ ?_ (fun hHeld => ?_); (focus ((try dsimp only); first | exact q9 | exact hS.out _ (by repeat (first | exact Below.refl _ _ | assumption | refine bel_drew ?_ | refine bel_drewN ?_ _ | refine bel_alloc ?_ _ | refine bel_trans ?_ (by assumption))))); clear hKW KW; (try simp only [Act.put, List.setIfInBounds_toArray, List.set_cons_zero, List.set_cons_succ])
  refine tk_yes 3 (v := ?_) rfl (by kernel_rfl) (by kernel_rfl) (by kernel_rfl) (fun _ _ _ h => h) (by kernel_rfl) (by assumption) ?_ ?_; rotate_left; (focus (intro w hSw; (try dsimp only at hSw); go_simp; (first | done | (with_reducible rfl)))); (try simp only [Act.put, List.setIfInBounds_toArray, List.set_cons_zero, List.set_cons_succ])
  refine tk_yes 4 (v := ?_) rfl (by kernel_rfl) (by kernel_rfl) (by kernel_rfl) (fun _ _ _ h => h) (by kernel_rfl) (by assumption) ?_ ?_; rotate_left; (focus (intro w hSw; (try dsimp only at hSw); go_simp; (first | done | (with_reducible rfl)))); (try simp only [Act.put, List.setIfInBounds_toArray, List.set_cons_zero, List.set_cons_succ])
  refine tk_yes 5 (v := ?_) rfl (by kernel_rfl) (by kernel_rfl) (by kernel_rfl) (fun _ _ _ h => h) (by kernel_rfl) (by assumption) ?_ ?_; rotate_left; (focus (intro w hSw; (try dsimp only at hSw); go_simp; (first | done | (with_reducible rfl)))); (try simp only [Act.put, List.setIfInBounds_toArray, List.set_cons_zero, List.set_cons_succ])
  refine tk_yes 6 (v := ?_) rfl (by kernel_rfl) (by kernel_rfl) (by kernel_rfl) (fun _ _ _ h => h) (by kernel_rfl) (by assumption) ?_ ?_; rotate_left; (focus (intro w hSw; (try dsimp only at hSw); go_simp; (first | done | (with_reducible rfl)))); (try simp only [Act.put, List.setIfInBounds_toArray, List.set_cons_zero, List.set_cons_succ])
  refine tk_call 7 rfl (by kernel_rfl) (by kernel_rfl) (fun KW hKW => ?_); go_simp; go_at_call 110; refine (KB.out _ (by repeat (first | exact Below.refl _ _ | assumption | refine bel_drew ?_ | refine bel_drewN ?_ _ | refine bel_alloc ?_ _ | refine bel_trans ?_ (by assumption)))).mono ?_; rintro e u7 ⟨rfl, hb7⟩; have B7 := bel_to (W0 := w1) (by repeat (first | exact Below.refl _ _ | assumption | refine bel_drew ?_ | refine bel_drewN ?_ _ | refine bel_alloc ?_ _ | refine bel_trans ?_ (by assumption))) hb7; have q9 := hS.out _ B7; clear hb7; refine hKW.out _ _ ?_ (fun hHeld => ?_); (focus ((try dsimp only); first | exact q9 | exact hS.out _ (by repeat (first | exact Below.refl _ _ | assumption | refine bel_drew ?_ | refine bel_drewN ?_ _ | refine bel_alloc ?_ _ | refine bel_trans ?_ (by assumption))))); clear hKW KW; (try simp only [Act.put, List.setIfInBounds_toArray, List.set_cons_zero, List.set_cons_succ])
  refine tk_yes 8 (v := ?_) rfl (by kernel_rfl) (by kernel_rfl) (by kernel_rfl) (fun _ _ _ h => h) (by kernel_rfl) (by assumption) ?_ ?_; rotate_left; (focus (intro w hSw; (try dsimp only at hSw); go_simp; (first | done | (with_reducible rfl)))); (try simp only [Act.put, List.setIfInBounds_toArray, List.set_cons_zero, List.set_cons_succ])
  refine tk_yes 9 (v := ?_) rfl (by kernel_rfl) (by kernel_rfl) (by kernel_rfl) (fun _ _ _ h => h) (by kernel_rfl) (by assumption) ?_ ?_; rotate_left; (focus (intro w hSw; (try dsimp only at hSw); go_simp; (first | done | (with_reducible rfl)))); (try simp only [Act.put, List.setIfInBounds_toArray, List.set_cons_zero, List.set_cons_succ])
  refine tk_yes 10 (v := ?_) rfl (by kernel_rfl) (by kernel_rfl) (by kernel_rfl) (fun _ _ _ h => h) (by kernel_rfl) (by assumption) ?_ ?_; rotate_left; (focus (intro w hSw; (try dsimp only at hSw); go_simp; (first | done | (with_reducible rfl)))); (try simp only [Act.put, List.setIfInBounds_toArray, List.set_cons_zero, List.set_cons_succ])
  refine tk_yes 11 (v := ?_) rfl (by kernel_rfl) (by kernel_rfl) (by kernel_rfl) (fun _ _ _ h => h) (by kernel_rfl) (by assumption) ?_ ?_; rotate_left; (focus (intro w hSw; (try dsimp only at hSw); go_simp; (first | done | (with_reducible rfl)))); (try simp only [Act.put, List.setIfInBounds_toArray, List.set_cons_zero, List.set_cons_succ])
  refine tk_yes 12 (v := ?_) rfl (by kernel_rfl) (by kernel_rfl) (by kernel_rfl) (fun _ _ _ h => h) (by kernel_rfl) (by assumption) ?_ ?_; rotate_left; (focus (intro w hSw; (try dsimp only at hSw); go_simp; (first | done | (with_reducible rfl)))); (try simp only [Act.put, List.setIfInBounds_toArray, List.set_cons_zero, List.set_cons_succ])
  refine tk_yes 14 (v := ?_) rfl (by kernel_rfl) (by kernel_rfl) (by kernel_rfl) (fun _ _ _ h => h) (by kernel_rfl) (by assumption) ?_ ?_; rotate_left; (focus (intro w hSw; (try dsimp only at hSw); go_simp; (first | done | (with_reducible rfl)))); (try simp only [Act.put, List.setIfInBounds_toArray, List.set_cons_zero, List.set_cons_succ])
  refine tk_yes 15 (v := ?_) rfl (by kernel_rfl) (by kernel_rfl) (by kernel_rfl) (fun _ _ _ h => h) (by kernel_rfl) (by assumption) ?_ ?_; rotate_left; (focus (intro w hSw; (try dsimp only at hSw); go_simp; (first | done | (with_reducible rfl)))); (try simp only [Act.put, List.setIfInBounds_toArray, List.set_cons_zero, List.set_cons_succ])
  refine tk_call 13 rfl (by kernel_rfl) (by kernel_rfl) (fun KW hKW => ?_); go_simp; go_at_call 80; refine (KTA.out _ (by repeat (first | exact Below.refl _ _ | assumption | refine bel_drew ?_ | refine bel_drewN ?_ _ | refine bel_alloc ?_ _ | refine bel_trans ?_ (by assumption)))).mono ?_; rintro e u13 ⟨rfl, hb13⟩; have B13 := bel_to (W0 := w1) (by repeat (first | exact Below.refl _ _ | assumption | refine bel_drew ?_ | refine bel_drewN ?_ _ | refine bel_alloc ?_ _ | refine bel_trans ?_ (by assumption))) hb13; have q9 := hS.out _ B13; clear hb13; refine hKW.out _ _ ?_ (fun hHeld => ?_); (focus ((try dsimp only); first | exact q9 | exact hS.out _ (by repeat (first | exact Below.refl _ _ | assumption | refine bel_drew ?_ | refine bel_drewN ?_ _ | refine bel_alloc ?_ _ | refine bel_trans ?_ (by assumption))))); clear hKW KW; (try simp only [Act.put, List.setIfInBounds_toArray, List.set_cons_zero, List.set_cons_succ])
  refine tk_call 16 rfl (by kernel_rfl) (by kernel_rfl) (fun KW hKW => ?_); go_simp; go_at_call 80; refine (KTB.out _ (by repeat (first | exact Below.refl _ _ | assumption | refine bel_drew ?_ | refine bel_drewN ?_ _ | refine bel_alloc ?_ _ | refine bel_trans ?_ (by assumption)))).mono ?_; rintro e u16 ⟨rfl, hb16⟩; have B16 := bel_to (W0 := w1) (by repeat (first | exact Below.refl _ _ | assumption | refine bel_drew ?_ | refine bel_drewN ?_ _ | refine bel_alloc ?_ _ | refine bel_trans ?_ (by assumption))) hb16; have q9 := hS.out _ B16; clear hb16; refine hKW.out _ _ ?_ (fun hHeld => ?_); (focus ((try dsimp only); first | exact q9 | exact hS.out _ (by repeat (first | exact Below.refl _ _ | assumption | refine bel_drew ?_ | refine bel_drewN ?_ _ | refine bel_alloc ?_ _ | refine bel_trans ?_ (by assumption))))); clear hKW KW; (try simp only [Act.put, List.setIfInBounds_toArray, List.set_cons_zero, List.set_cons_succ])
  refine tk_yes 17 (v := ?_) rfl (by kernel_rfl) (by kernel_rfl) (by kernel_rfl) (fun _ _ _ h => h) (by kernel_rfl) (by assumption) ?_ ?_; rotate_left; (focus (intro w hSw; (try dsimp only at hSw); go_simp; (first | done | (with_reducible rfl)))); (try simp only [Act.put, List.setIfInBounds_toArray, List.set_cons_zero, List.set_cons_succ])
  refine tk_yes 18 (v := ?_) rfl (by kernel_rfl) (by kernel_rfl) (by kernel_rfl) (fun _ _ _ h => h) (by kernel_rfl) (by assumption) ?_ ?_; rotate_left; (focus (intro w hSw; (try dsimp only at hSw); go_simp; (first | done | (with_reducible rfl)))); (try simp only [Act.put, List.setIfInBounds_toArray, List.set_cons_zero, List.set_cons_succ])
  refine wpAnyH_done (by kernel_rfl) ?_ _
  have R1 := Lib.hid (R0.out.keep B16)
  have BW1 := Lib.hid (bel_trans B0.out B16)
  have BX1 := Lib.hid B16
  obtain ⟨wa, rfl⟩ : ∃ wa, wa = u16 := ⟨_, rfl⟩
  clear B2 B7 B13 B16 KA KB KTA KTB hS q9
  go_upto_region 4 with (fail)
  refine region_name ?_
  rintro W4 hW4
  have b4 : Below wa.heap.size wa W4 := by rw [hW4]; exact (by repeat (first | exact Below.refl _ _ | assumption | refine bel_drew ?_ | refine bel_drewN ?_ _ | refine bel_alloc ?_ _ | refine bel_set ?_ (by first | (dsimp only; omega) | (simp; done) | (simp; omega)) _ | refine bel_trans ?_ (by assumption)))
  have HREL : Hid (UpRelR wa (A ++ nn :: C) al (.int .i64 (an : Int)) (.slice (some ⟨wa.heap.size, 0, none⟩) 1 1) W4) := Lib.hid ⟨0, an, Nat.zero_le _, HU0.out, rfl, by
    have e : (A ++ nn :: C).take 1 = [an] := by have := HU0.out; cases hq : A ++ nn :: C with
      | nil => rw [hq] at this; cases this
      | cons x l => rw [hq] at this; have e3 := Option.some.inj this; simp; exact e3
    rw [e]
    exact OwnI.of_row (g := wa.heap.size) (Nat.le_refl _) (by rw [hW4]; exact World.alloc_heap_new _ _) rfl (by omega), b4⟩
  clear hW4 b4
  go_wp2_with fail
  go_loopw [1, 7] (fun x v wr => UpRelR wa (A ++ nn :: C) al x v wr) (fun _ v _ => al + 2 - vlen v)
  case atStart => exact HREL.out
  case round =>
    clear HREL
    obtain ⟨k, z, hk, hz, rfl, ho, hb⟩ := hrel
    obtain ⟨Av, cv, hv⟩ := own_shape ho
    subst hv
    have hkl := getElem?_lt hz
    have hol0 : (ints ((A ++ nn :: C).take (k + 1))).length = k + 1 := by rw [ints_len, List.length_take]; omega
    rw [hol0] at ho ⊢
    have HO1 := Lib.hid ho
    have HB := Lib.hid hb
    have HZ := Lib.hid hz
    have B1k := Lib.hid (bel_trans BX1.out hb)
    have r1 := R1.out.keep hb
    have KWz := Lib.hid (KW.out _ B1k.out z)
    rw [in_way hO] at KWz
    have c0 : wr.cell? ⟨w.heap.size, 0, none⟩ = some (.slice Ao n co) := by rw [r1.cell]; rfl
    have c1 : wr.cell? ⟨w.heap.size, 1, none⟩ = some (.slice Ag n cg) := by rw [r1.cell]; rfl
    have c2 : wr.cell? ⟨w.heap.size, 2, none⟩ = some (.slice Ac m cc) := by rw [r1.cell]; rfl
    have c3 : wr.cell? ⟨w.heap.size, 3, none⟩ = some (.int .i64 (fr : Int)) := by rw [r1.cell]; rfl
    have c4 : wr.cell? ⟨w.heap.size, 4, none⟩ = some (.slice An N.length cn) := by rw [r1.cell]; rfl
    have c5 : wr.cell? ⟨w.heap.size, 5, none⟩ = some (.slice Ap N.length cp) := by rw [r1.cell]; rfl
    have HR1 := Lib.hid r1
    clear ho hb r1
    by_cases hlt : k < al
    · have hzA : z ∈ A := by rw [List.getElem?_append_left (by rw [HAL.out]; exact hlt)] at hz; exact List.mem_of_getElem? hz
      rw [decide_eq_false (HAB.out z hzA)] at KWz
      obtain ⟨y, hy⟩ : ∃ y, (A ++ nn :: C)[k + 1]? = some y := ⟨_, List.getElem?_eq_getElem (by rw [List.length_append, HAL.out, List.length_cons]; omega)⟩
      have HY := Lib.hid hy
      have HUV := Lib.hid (HUP.out k z y hz hy).1
      have HT2 : Hid (ints ((A ++ nn :: C).take (k + 1)) ++ [(y : Int)] = ints ((A ++ nn :: C).take (k + 1 + 1))) := Lib.hid (by rw [List.take_add_one (i := k + 1), hy, ints_app]; rfl)
      have hk9 : k + 1 ≤ al := hlt
      clear hzA hy hz hkl hol0
      go_wp2_with fail
      refine KWz.out.mono ?_
      rintro e w5 ⟨rfl, b5⟩
      have r5 := HR1.out.keep b5
      have KU := Lib.hid (ref37_Up (z : Int) (HH.out.keep (bel_trans B1k.out b5)))
      rw [HUV.out] at KU
      have HO5 := Lib.hid (HO1.out.keep b5)
      have HB5 := Lib.hid (bel_trans HB.out b5)
      clear c0 c1 c2 c3 c4 c5 KWz b5
      have c0 : w5.cell? ⟨w.heap.size, 0, none⟩ = some (.slice Ao n co) := by rw [r5.cell]; rfl
      have c1 : w5.cell? ⟨w.heap.size, 1, none⟩ = some (.slice Ag n cg) := by rw [r5.cell]; rfl
      have c2 : w5.cell? ⟨w.heap.size, 2, none⟩ = some (.slice Ac m cc) := by rw [r5.cell]; rfl
      have c3 : w5.cell? ⟨w.heap.size, 3, none⟩ = some (.int .i64 (fr : Int)) := by rw [r5.cell]; rfl
      have c4 : w5.cell? ⟨w.heap.size, 4, none⟩ = some (.slice An N.length cn) := by rw [r5.cell]; rfl
      have c5 : w5.cell? ⟨w.heap.size, 5, none⟩ = some (.slice Ap N.length cp) := by rw [r5.cell]; rfl
      clear r5
      go_wp2_with fail
      refine KU.out.mono ?_
      rintro e w6 ⟨rfl, b6⟩
      have HO6 := Lib.hid (HO5.out.keep b6)
      have B6 := Lib.hid (bel_trans HB5.out b6)
      clear c0 c1 c2 c3 c4 c5 KU b6
      go_wp2_with (at_builtin; refine app_listI rfl (.tmp 39) (.tmp 41) rfl wa.heap.size _ (ints ((A ++ nn :: C).take (k + 1))) rfl (HO6.out.keep (bel_alloc (Below.refl _ _) _)) (some ⟨w6.heap.size, 0, none⟩) 1 1 [(y : Int)] rfl (src_oneI (by simp [go_sem])) (by rw [ints_len, List.length_take]; omega) (by have := B6.out.size; simp; omega) ?_; intro V9 W8 ho9 hb9; rw [HT2.out] at ho9; have HO9 := Lib.hid ho9; have B9 := Lib.hid ((bel_alloc B6.out _).trans hb9); clear ho9 hb9)
      go_roundw
      case rel => exact ⟨k + 1, y, hk9, HY.out, rfl, HO9.out, B9.out⟩
      case measure =>
        obtain ⟨A9, c9, h9⟩ := own_shape HO9.out
        have e9 : vlen V9 = k + 2 := by rw [h9]; show (ints ((A ++ nn :: C).take (k + 1 + 1))).length = _; rw [ints_len, List.length_take]; have := getElem?_lt HY.out; omega
        show al + 2 - vlen V9 < al + 2 - (k + 1)
        rw [e9]; omega
    · have hkA : k = al := by omega
      have hzn : z = nn := by
        rw [hkA, ← HAL.out, List.getElem?_append_right (Nat.le_refl _), Nat.sub_self] at hz
        simpa using hz.symm
      subst hzn
      rw [decide_eq_true HND.out] at KWz
      have HE0 : Hid ((A ++ z :: C).take (k + 1) = A ++ (z :: B.reverse).take (0 + 1)) := Lib.hid (by
        rw [hkA, ← HAL.out, List.take_append, List.take_of_length_le (by omega), show A.length + 1 - A.length = 1 by omega]; rfl)
      have HREL : Hid (∀ W, Below wr.heap.size wr W → DownRel wa A (z :: B.reverse) (.int .i64 (z : Int)) (.slice Av (k + 1) cv) W) := Lib.hid (fun W hW => ⟨0, z, rfl, rfl, by rw [← HE0.out]; exact HO1.out.keep hW, bel_trans' HB.out hW HB.out.size⟩)
      clear hkA hz hkl hol0 hlt
      go_wp2_with fail
      refine KWz.out.mono ?_
      rintro e w5 ⟨rfl, b5⟩
      have HREL2 := Lib.hid (HREL.out _ b5)
      clear KWz b5 c0 c1 c2 c3 c4 c5 HREL
      go_wp2_with fail
      go_loopw [1, 7, 8, 9] (fun x v _ _ wr => DownRel wa A (z :: B.reverse) x v wr) (fun _ v _ _ _ => al + bl + 3 - vlen v)
      case atStart => exact HREL2.out
      case round =>
        clear HREL2
        obtain ⟨m', y, hy, rfl, ho, hb⟩ := hrel
        obtain ⟨wo, rfl⟩ : ∃ wo, wo = wr := ⟨_, rfl⟩
        obtain ⟨Av, cv, hv⟩ := own_shape ho
        subst hv
        have hml := getElem?_lt hy
        rw [List.length_cons, List.length_reverse, HBL.out] at hml
        have hol0 : (ints (A ++ (z :: B.reverse).take (m' + 1))).length = al + m' + 1 := by rw [ints_len, List.length_append, List.length_take, List.length_cons, List.length_reverse, HAL.out, HBL.out]; omega
        rw [hol0] at ho ⊢
        have HO2 := Lib.hid ho
        have HB2 := Lib.hid hb
        have B2k := Lib.hid (bel_trans BX1.out hb)
        have r2 := R1.out.keep hb
        have HR2 := Lib.hid r2
        rcases HDS.out m' y hy with ⟨hyb, hmb⟩ | ⟨c, hc, hck, hyb, hyN, huniq⟩
        · have HE : Hid (A ++ (z :: B.reverse).take (m' + 1) = A ++ z :: B.reverse) := Lib.hid (by rw [List.take_of_length_le (by rw [List.length_cons, List.length_reverse]; omega)])
          have g0 : ((y : Int) != (bn : Int)) = false := by rw [hyb]; simp
          have HL9 : Hid ((ints (A ++ z :: B.reverse)).length ≤ 9223372036854775807) := Lib.hid (by rw [ints_len, List.length_append, List.length_cons, List.length_reverse, HAL.out, HBL.out]; omega)
          clear hy ho hb hml hol0 r2 hyb hmb
          go_wp2_with fail
          go_ret
          exact own_gives (by rw [← HE.out]; exact HO2.out.mono BW1.out.size) HL9.out (bel_trans BW1.out HB2.out)
        · have g0 : ((y : Int) != (bn : Int)) = true := by simp; omega
          have HC := Lib.hid hc
          have HCK := Lib.hid hck
          have HU9 := Lib.hid huniq
          have KC := Lib.hid (ref37_Children (y : Int) (by omega) (HH.out.keep B2k.out))
          have HKS : Hid (childN N up (y : Int) = childW N up y) := Lib.hid rfl
          rw [HKS.out] at KC
          obtain ⟨Ks, hKs⟩ : ∃ Ks, childW N up y = Ks := ⟨_, rfl⟩
          obtain ⟨kn, hkn⟩ : ∃ kn, Ks.length = kn := ⟨_, rfl⟩
          rw [hKs] at KC HCK HU9
          have HKN := Lib.hid hkn
          have HT3 : Hid (ints (A ++ (z :: B.reverse).take (m' + 1)) ++ [(c : Int)] = ints (A ++ (z :: B.reverse).take (m' + 1 + 1))) := Lib.hid (by rw [List.take_add_one (i := m' + 1), hc, ← List.append_assoc, ints_app (A ++ _)]; rfl)
          have HCU : Hid (c ∈ upsV N up (bn : Int)) := Lib.hid (HZD.out c (List.mem_of_getElem? hc))
          have hm9 : m' + 1 ≤ bl := by have := getElem?_lt hc; rw [List.length_cons, List.length_reverse, HBL.out] at this; omega
          have c0 : wo.cell? ⟨w.heap.size, 0, none⟩ = some (.slice Ao n co) := by rw [r2.cell]; rfl
          have c1 : wo.cell? ⟨w.heap.size, 1, none⟩ = some (.slice Ag n cg) := by rw [r2.cell]; rfl
          have c2 : wo.cell? ⟨w.heap.size, 2, none⟩ = some (.slice Ac m cc) := by rw [r2.cell]; rfl
          have c3 : wo.cell? ⟨w.heap.size, 3, none⟩ = some (.int .i64 (fr : Int)) := by rw [r2.cell]; rfl
          have c4 : wo.cell? ⟨w.heap.size, 4, none⟩ = some (.slice An N.length cn) := by rw [r2.cell]; rfl
          have c5 : wo.cell? ⟨w.heap.size, 5, none⟩ = some (.slice Ap N.length cp) := by rw [r2.cell]; rfl
          clear hy ho hb hml hol0 r2 hyb hc hck huniq hKs hkn hyN
          go_wp2_with fail
          refine KC.out.mono ?_
          rintro e w8 ⟨A8, n8, c8, rfl, i8, b8⟩
          have e8 : kn = n8 := by have := i8.1.1; rw [ints_len, HKN.out] at this; exact this
          subst e8
          have I8 := Lib.hid i8.1
          have R8 := Lib.hid (HR2.out.keep b8)
          have HO8 := Lib.hid (HO2.out.keep b8)
          have B8 := Lib.hid (bel_trans HB2.out b8)
          clear i8 b8 KC c0 c1 c2 c3 c4 c5
          go_wp2_with fail
          go_loopw [1, 9] (fun x i wr => ScanRel w8 Ks y c x i wr) (fun _ i _ => kn - (intOf i).toNat)
          case atStart => exact ⟨0, Nat.zero_le _, rfl, by simp, Below.refl _ _⟩
          case round =>
            obtain ⟨i, hi, rfl, rfl, hb⟩ := hrel
            rw [HKN.out] at hi
            have HB9 := Lib.hid hb
            have B9k := Lib.hid (bel_trans BX1.out (bel_trans' B8.out hb B8.out.size))
            have hi0 : (0 : Int) ≤ (i : Int) := by omega
            by_cases hlt : i < kn
            · have hltI : (i : Int) < (kn : Int) := by omega
              obtain ⟨q, hq⟩ : ∃ q, Ks[i]? = some q := ⟨_, List.getElem?_eq_getElem (by rw [HKN.out]; exact hlt)⟩
              have HQ := Lib.hid hq
              obtain ⟨-, b9, off, rfl, hb9, x9⟩ := ints_at (I8.out.keep hb) hq
              have HTK := Lib.hid (show Ks.take (i + 1) = Ks.take i ++ [q] by rw [List.take_add_one, hq]; rfl)
              have r9 := R8.out.keep hb
              have hS9 : Hid (∀ W : World, Below wr.heap.size wr W → (fun W : World => W.cell? ⟨w.heap.size, 0, none⟩ = some (.slice Ao n co) ∧ W.cell? ⟨w.heap.size, 1, none⟩ = some (.slice Ag n cg) ∧ W.cell? ⟨w.heap.size, 2, none⟩ = some (.slice Ac m cc) ∧ W.cell? ⟨w.heap.size, 3, none⟩ = some (.int .i64 (fr : Int)) ∧ W.cell? ⟨w.heap.size, 4, none⟩ = some (.slice An N.length cn) ∧ W.cell? ⟨w.heap.size, 5, none⟩ = some (.slice Ap N.length cp) ∧ W.cell? ⟨b9, off + i, none⟩ = some (.int .i64 (q : Int))) W) := Lib.hid (fun W hW => ⟨(hW.cell (p := ⟨w.heap.size, 0, none⟩) r9.lt).trans ((r9.cell 0).trans rfl), (hW.cell (p := ⟨w.heap.size, 1, none⟩) r9.lt).trans ((r9.cell 1).trans rfl), (hW.cell (p := ⟨w.heap.size, 2, none⟩) r9.lt).trans ((r9.cell 2).trans rfl), (hW.cell (p := ⟨w.heap.size, 3, none⟩) r9.lt).trans ((r9.cell 3).trans rfl), (hW.cell (p := ⟨w.heap.size, 4, none⟩) r9.lt).trans ((r9.cell 4).trans rfl), (hW.cell (p := ⟨w.heap.size, 5, none⟩) r9.lt).trans ((r9.cell 5).trans rfl), (hW.cell (p := ⟨b9, off + i, none⟩) hb9).trans x9⟩)
              have KWq : Hid (∀ W, Below wr.heap.size wr W → Calls Try.prog 82 #[.agg #[.slice Ao n co, .slice Ag n cg, .slice Ac m cc, .int .i64 (fr : Int), .slice An N.length cn, .slice Ap N.length cp], .int .i64 (bn : Int), .int .i64 (q : Int)] W fun e w' => e = .returned (.bool (decide (q ∈ upsV N up (bn : Int)))) ∧ Below W.heap.size W w') := Lib.hid (fun W hW => by
                have := KW.out W (bel_trans B9k.out hW) q
                rwa [in_way hO] at this)
              have hqm : q ∈ Ks := List.mem_of_getElem? hq
              have wi : IntKind.i64.wrap ((i : Int) + 1) = ((i + 1 : Nat) : Int) := by rw [IntKind.wrap_i64]; have := I8.out.2.1; omega
              clear hb hq r9
              by_cases hqD : q ∈ upsV N up (bn : Int)
              · have hqc : q = c := HU9.out q hqm hqD
                have HREL3 : Hid (∀ W, Below wr.heap.size wr W → ScanRel w8 Ks y c (.int .i64 (q : Int)) (.int .i64 ((i + 1 : Nat) : Int)) W) := Lib.hid (fun W hW => ⟨i + 1, by rw [HKN.out]; omega, rfl, by rw [HTK.out, if_pos (by rw [hqc]; simp), hqc], bel_trans' HB9.out hW HB9.out.size⟩)
                rw [decide_eq_true hqD] at KWq
                obtain ⟨xv, hxv⟩ : ∃ xv : Nat, (if c ∈ Ks.take i then c else y) = xv := ⟨_, rfl⟩
                rw [hxv]
                clear hqD hqc hqm hxv
                go_upto_region 12 with (fail)
                refine wp_region_held_drew (S := (fun W : World => W.cell? ⟨w.heap.size, 0, none⟩ = some (.slice Ao n co) ∧ W.cell? ⟨w.heap.size, 1, none⟩ = some (.slice Ag n cg) ∧ W.cell? ⟨w.heap.size, 2, none⟩ = some (.slice Ac m cc) ∧ W.cell? ⟨w.heap.size, 3, none⟩ = some (.int .i64 (fr : Int)) ∧ W.cell? ⟨w.heap.size, 4, none⟩ = some (.slice An N.length cn) ∧ W.cell? ⟨w.heap.size, 5, none⟩ = some (.slice Ap N.length cp) ∧ W.cell? ⟨b9, off + i, none⟩ = some (.int .i64 (q : Int)))) (by kernel_rfl) ?_ (fun hHeld => ?_)
                focus ((try dsimp only); first | exact q9 | exact hS9.out _ (by repeat (first | exact Below.refl _ _ | assumption | refine bel_drew ?_ | refine bel_drewN ?_ _ | refine bel_alloc ?_ _ | refine bel_trans ?_ (by assumption))))
                refine tk_yes 0 (v := ?_) rfl (by kernel_rfl) (by kernel_rfl) (by kernel_rfl) (fun _ _ _ h => h) (by kernel_rfl) (by assumption) ?_ ?_; rotate_left; (focus (intro w hSw; (try dsimp only at hSw); go_simp; (first | done | (with_reducible rfl)))); (try simp only [Act.put, List.setIfInBounds_toArray, List.set_cons_zero, List.set_cons_succ])
                refine tk_yes 1 (v := ?_) rfl (by kernel_rfl) (by kernel_rfl) (by kernel_rfl) (fun _ _ _ h => h) (by kernel_rfl) (by assumption) ?_ ?_; rotate_left; (focus (intro w hSw; (try dsimp only at hSw); go_simp; (first | done | (with_reducible rfl)))); (try simp only [Act.put, List.setIfInBounds_toArray, List.set_cons_zero, List.set_cons_succ])
                refine tk_yes 2 (v := ?_) rfl (by kernel_rfl) (by kernel_rfl) (by kernel_rfl) (fun _ _ _ h => h) (by kernel_rfl) (by assumption) ?_ ?_; rotate_left; (focus (intro w hSw; (try dsimp only at hSw); go_simp; (first | done | (with_reducible rfl)))); (try simp only [Act.put, List.setIfInBounds_toArray, List.set_cons_zero, List.set_cons_succ])
                refine tk_yes 3 (v := ?_) rfl (by kernel_rfl) (by kernel_rfl) (by kernel_rfl) (fun _ _ _ h => h) (by kernel_rfl) (by assumption) ?_ ?_; rotate_left; (focus (intro w hSw; (try dsimp only at hSw); go_simp; (first | done | (with_reducible rfl)))); (try simp only [Act.put, List.setIfInBounds_toArray, List.set_cons_zero, List.set_cons_succ])
                refine tk_yes 4 (v := ?_) rfl (by kernel_rfl) (by kernel_rfl) (by kernel_rfl) (fun _ _ _ h => h) (by kernel_rfl) (by assumption) ?_ ?_; rotate_left; (focus (intro w hSw; (try dsimp only at hSw); go_simp; (first | done | (with_reducible rfl)))); (try simp only [Act.put, List.setIfInBounds_toArray, List.set_cons_zero, List.set_cons_succ])
                refine tk_yes 5 (v := ?_) rfl (by kernel_rfl) (by kernel_rfl) (by kernel_rfl) (fun _ _ _ h => h) (by kernel_rfl) (by assumption) ?_ ?_; rotate_left; (focus (intro w hSw; (try dsimp only at hSw); go_simp; (first | done | (with_reducible rfl)))); (try simp only [Act.put, List.setIfInBounds_toArray, List.set_cons_zero, List.set_cons_succ])
                refine tk_call 6 rfl (by kernel_rfl) (by kernel_rfl) (fun KW hKW => ?_); go_simp; go_at_call 82; refine (KWq.out _ (by repeat (first | exact Below.refl _ _ | assumption | refine bel_drew ?_ | refine bel_drewN ?_ _ | refine bel_alloc ?_ _ | refine bel_trans ?_ (by assumption)))).mono ?_; rintro e u6 ⟨rfl, hb6⟩; have B6 := bel_to (W0 := wr) (by repeat (first | exact Below.refl _ _ | assumption | refine bel_drew ?_ | refine bel_drewN ?_ _ | refine bel_alloc ?_ _ | refine bel_trans ?_ (by assumption))) hb6; have q9 := hS9.out _ B6; clear hb6; refine hKW.out _ _ ?_ (fun hHeld => ?_); (focus ((try dsimp only); first | exact q9 | exact hS9.out _ (by repeat (first | exact Below.refl _ _ | assumption | refine bel_drew ?_ | refine bel_drewN ?_ _ | refine bel_alloc ?_ _ | refine bel_trans ?_ (by assumption))))); clear hKW KW; (try simp only [Act.put, List.setIfInBounds_toArray, List.set_cons_zero, List.set_cons_succ])
                refine wpAnyH_done (by kernel_rfl) ?_ _
                have x10 := (hS9.out _ B6).2.2.2.2.2.2
                have BZ := B6
                have HRR := Lib.hid (HREL3.out _ B6)
                obtain ⟨wz, rfl⟩ : ∃ wz, wz = u6 := ⟨_, rfl⟩
                clear q9 BZ hS9 KWq x9 hb9
                go_wp2_with fail
                go_roundw
                case rel => exact HREL3.out _ (by first | exact B6.drew | exact B6)
                case measure => simp [intOf]; omega
              · have HREL3 : Hid (∀ W, Below wr.heap.size wr W → ScanRel w8 Ks y c (.int .i64 ((if c ∈ Ks.take i then c else y : Nat) : Int)) (.int .i64 ((i + 1 : Nat) : Int)) W) := Lib.hid (fun W hW => ⟨i + 1, by rw [HKN.out]; omega, rfl, by
                  have hne : c ≠ q := fun e => hqD (by rw [← e]; exact HCU.out)
                  have e : (c ∈ Ks.take (i + 1)) ↔ c ∈ Ks.take i := by rw [HTK.out, List.mem_append, List.mem_singleton]; exact ⟨fun h => h.elim id (fun h => absurd h hne), .inl⟩
                  by_cases h1 : c ∈ Ks.take i
                  · rw [if_pos h1, if_pos (e.2 h1)]
                  · rw [if_neg h1, if_neg (fun h => h1 (e.1 h))], bel_trans' HB9.out hW HB9.out.size⟩)
                rw [decide_eq_false hqD] at KWq
                obtain ⟨xv, hxv⟩ : ∃ xv : Nat, (if c ∈ Ks.take i then c else y) = xv := ⟨_, rfl⟩
                rw [hxv] at HREL3 ⊢
                clear hqD hqm hxv
                go_upto_region 12 with (fail)
                refine wp_region_held_drew (S := (fun W : World => W.cell? ⟨w.heap.size, 0, none⟩ = some (.slice Ao n co) ∧ W.cell? ⟨w.heap.size, 1, none⟩ = some (.slice Ag n cg) ∧ W.cell? ⟨w.heap.size, 2, none⟩ = some (.slice Ac m cc) ∧ W.cell? ⟨w.heap.size, 3, none⟩ = some (.int .i64 (fr : Int)) ∧ W.cell? ⟨w.heap.size, 4, none⟩ = some (.slice An N.length cn) ∧ W.cell? ⟨w.heap.size, 5, none⟩ = some (.slice Ap N.length cp) ∧ W.cell? ⟨b9, off + i, none⟩ = some (.int .i64 (q : Int)))) (by kernel_rfl) ?_ (fun hHeld => ?_)
                focus ((try dsimp only); first | exact q9 | exact hS9.out _ (by repeat (first | exact Below.refl _ _ | assumption | refine bel_drew ?_ | refine bel_drewN ?_ _ | refine bel_alloc ?_ _ | refine bel_trans ?_ (by assumption))))
                refine tk_yes 0 (v := ?_) rfl (by kernel_rfl) (by kernel_rfl) (by kernel_rfl) (fun _ _ _ h => h) (by kernel_rfl) (by assumption) ?_ ?_; rotate_left; (focus (intro w hSw; (try dsimp only at hSw); go_simp; (first | done | (with_reducible rfl)))); (try simp only [Act.put, List.setIfInBounds_toArray, List.set_cons_zero, List.set_cons_succ])
                refine tk_yes 1 (v := ?_) rfl (by kernel_rfl) (by kernel_rfl) (by kernel_rfl) (fun _ _ _ h => h) (by kernel_rfl) (by assumption) ?_ ?_; rotate_left; (focus (intro w hSw; (try dsimp only at hSw); go_simp; (first | done | (with_reducible rfl)))); (try simp only [Act.put, List.setIfInBounds_toArray, List.set_cons_zero, List.set_cons_succ])
                refine tk_yes 2 (v := ?_) rfl (by kernel_rfl) (by kernel_rfl) (by kernel_rfl) (fun _ _ _ h => h) (by kernel_rfl) (by assumption) ?_ ?_; rotate_left; (focus (intro w hSw; (try dsimp only at hSw); go_simp; (first | done | (with_reducible rfl)))); (try simp only [Act.put, List.setIfInBounds_toArray, List.set_cons_zero, List.set_cons_succ])
                refine tk_yes 3 (v := ?_) rfl (by kernel_rfl) (by kernel_rfl) (by kernel_rfl) (fun _ _ _ h => h) (by kernel_rfl) (by assumption) ?_ ?_; rotate_left; (focus (intro w hSw; (try dsimp only at hSw); go_simp; (first | done | (with_reducible rfl)))); (try simp only [Act.put, List.setIfInBounds_toArray, List.set_cons_zero, List.set_cons_succ])
                refine tk_yes 4 (v := ?_) rfl (by kernel_rfl) (by kernel_rfl) (by kernel_rfl) (fun _ _ _ h => h) (by kernel_rfl) (by assumption) ?_ ?_; rotate_left; (focus (intro w hSw; (try dsimp only at hSw); go_simp; (first | done | (with_reducible rfl)))); (try simp only [Act.put, List.setIfInBounds_toArray, List.set_cons_zero, List.set_cons_succ])
                refine tk_yes 5 (v := ?_) rfl (by kernel_rfl) (by kernel_rfl) (by kernel_rfl) (fun _ _ _ h => h) (by kernel_rfl) (by assumption) ?_ ?_; rotate_left; (focus (intro w hSw; (try dsimp only at hSw); go_simp; (first | done | (with_reducible rfl)))); (try simp only [Act.put, List.setIfInBounds_toArray, List.set_cons_zero, List.set_cons_succ])
                refine tk_call 6 rfl (by kernel_rfl) (by kernel_rfl) (fun KW hKW => ?_); go_simp; go_at_call 82; refine (KWq.out _ (by repeat (first | exact Below.refl _ _ | assumption | refine bel_drew ?_ | refine bel_drewN ?_ _ | refine bel_alloc ?_ _ | refine bel_trans ?_ (by assumption)))).mono ?_; rintro e u6 ⟨rfl, hb6⟩; have B6 := bel_to (W0 := wr) (by repeat (first | exact Below.refl _ _ | assumption | refine bel_drew ?_ | refine bel_drewN ?_ _ | refine bel_alloc ?_ _ | refine bel_trans ?_ (by assumption))) hb6; have q9 := hS9.out _ B6; clear hb6; refine hKW.out _ _ ?_ (fun hHeld => ?_); (focus ((try dsimp only); first | exact q9 | exact hS9.out _ (by repeat (first | exact Below.refl _ _ | assumption | refine bel_drew ?_ | refine bel_drewN ?_ _ | refine bel_alloc ?_ _ | refine bel_trans ?_ (by assumption))))); clear hKW KW; (try simp only [Act.put, List.setIfInBounds_toArray, List.set_cons_zero, List.set_cons_succ])
                refine wpAnyH_done (by kernel_rfl) ?_ _
                clear q9 hS9 KWq x9 hb9
                go_wp2_with fail
                go_roundw
                case rel => exact HREL3.out _ (by first | exact B6.drew | exact B6)
                case measure => simp [intOf]; omega
            · have hin : c ∈ Ks.take i := by rw [List.take_of_length_le (by rw [HKN.out]; omega)]; exact HCK.out
              rw [if_pos hin]
              have hltI : ¬ (i : Int) < (kn : Int) := by omega
              have HO10 := Lib.hid (HO8.out.keep hb)
              have B10 := Lib.hid (bel_trans' B8.out hb B8.out.size)
              have hlen9 : (ints (A ++ (z :: B.reverse).take (m' + 1))).length ≤ 8194 := by rw [ints_len, List.length_append, List.length_take, List.length_cons, List.length_reverse, HAL.out, HBL.out]; omega
              have HL9 := Lib.hid hlen9
              clear hin hb hlen9
              go_wp2_with (at_builtin; refine app_listI rfl (.tmp 66) (.tmp 68) rfl wa.heap.size _ (ints (A ++ (z :: B.reverse).take (m' + 1))) rfl (HO10.out.keep (bel_alloc (Below.refl _ _) _)) (some ⟨wr.heap.size, 0, none⟩) 1 1 [(c : Int)] rfl (src_oneI (by simp [go_sem])) (by have := HL9.out; omega) (by have := B10.out.size; simp; omega) ?_; intro V9 W8 ho9 hb9; rw [HT3.out] at ho9; have HO11 := Lib.hid ho9; have B11 := Lib.hid ((bel_alloc B10.out _).trans hb9); clear ho9 hb9)
              go_roundw
              case rel => exact ⟨m' + 1, c, HC.out, rfl, HO11.out, B11.out⟩
              case measure =>
                obtain ⟨A9, c9, h9⟩ := own_shape HO11.out
                have e9 : vlen V9 = al + m' + 2 := by rw [h9]; show (ints (A ++ (z :: B.reverse).take (m' + 1 + 1))).length = _; rw [ints_len, List.length_append, List.length_take, List.length_cons, List.length_reverse, HAL.out, HBL.out]; omega
                show al + bl + 3 - vlen V9 < al + bl + 3 - (al + m' + 1)
                rw [e9]; omega
end Go.Proofs.Ytdhcmnbajkpjiaa
/-
  The walk of WalkPaths.
-/
namespace Go.Proofs.Ytdhcmnbajkpjiaa
open Go.RowKit
open Go.Maps
set_option linter.unusedVariables false
set_option linter.unusedSimpArgs false
attribute [local go_sem] drewN_alloc drewN_setCell

variable {w0 w w' : World} {own : Nat → Prop} {Fb n : Nat} {S : FSt} {N : List Nat} {up : List Int} {P : Nat → Prop} {V : Value} {g : List Int} {O cl : List Nat} {fr : Nat}
theorem upsV_is {x : Int} (hx : 0 ≤ x ∧ x.toNat ∈ N) : upsV N up x = PW.ups (parW up) (dpW N) x.toNat := if_pos hx
theorem top_mem (hO : Ord N up) {a : Int} (ha : 0 ≤ a ∧ a.toNat ∈ N) : ∃ r : Nat, topV N up a = (r : Int) ∧ r ∈ upsV N up a := by
  obtain ⟨A, r, h1, _, _⟩ := PW.ups_top hO.is ha.2
  refine ⟨r, ?_, by rw [upsV_is ha, h1]; simp⟩
  unfold topV lastV
  rw [upsV_is ha, h1]
  simp
theorem ref38_Path (a b : Int) (hO : Ord N up) (hN : N.length ≤ 4096) (h : RefF P w V n g O cl fr N up) : Calls Try.prog 84 #[V, .int .i64 a, .int .i64 b] w (GivesInts w (ints (pathW N up a b))) := by
  by_cases hh : (0 ≤ a ∧ a.toNat ∈ N) ∧ (0 ≤ b ∧ b.toNat ∈ N) ∧ topV N up a = topV N up b
  · obtain ⟨ha, hb, hT⟩ := hh
    rcases PW.two_ways hO.is ha.2 hb.2 with ⟨A, B, C, nn, e1, e2, h1, h2⟩ | hd
    · have e : pathW N up a b = A ++ nn :: B.reverse := by
        unfold pathW
        rw [upsV_is ha, upsV_is hb]
        exact PW.path_two hO.is hb.2 e1 e2 h1
      rw [e]
      exact ref38_Path_way a b ha hb hT (by rw [upsV_is ha]; exact e1) (by rw [upsV_is hb]; exact e2) (by rw [upsV_is hb]; exact h1) hO hN h
    · obtain ⟨r, hr1, hr2⟩ := top_mem hO ha
      obtain ⟨r', hr3, hr4⟩ := top_mem hO hb
      have : r = r' := by rw [hr1, hr3] at hT; omega
      subst this
      rw [upsV_is ha] at hr2
      rw [upsV_is hb] at hr4
      exact absurd hr4 (hd r hr2)
  · have e : pathW N up a b = [] := by
      unfold pathW
      refine PW.path_none (fun x hx hx2 => hh ?_)
      have ha : 0 ≤ a ∧ a.toNat ∈ N := by
        by_cases h1 : 0 ≤ a ∧ a.toNat ∈ N
        · exact h1
        · rw [upsV_no h1] at hx; simp at hx
      have hb : 0 ≤ b ∧ b.toNat ∈ N := by
        by_cases h1 : 0 ≤ b ∧ b.toNat ∈ N
        · exact h1
        · rw [upsV_no h1] at hx2; simp at hx2
      exact ⟨ha, hb, topV_in hO hx hx2⟩
    rw [e]
    exact ref38_Path_nil a b hO hN h hh
theorem pathW_back (hO : Ord N up) (a b : Int) : pathW N up b a = (pathW N up a b).reverse := by
  unfold pathW
  by_cases ha : 0 ≤ a ∧ a.toNat ∈ N
  · by_cases hb : 0 ≤ b ∧ b.toNat ∈ N
    · rw [upsV_is ha, upsV_is hb]; exact PW.path_back hO.is ha.2 hb.2
    · rw [upsV_no hb, PW.path_none (fun x hx => by simp at hx), PW.path_none (fun x hx hx2 => by simp at hx2)]; rfl
  · rw [upsV_no ha, PW.path_none (fun x hx hx2 => by simp at hx2), PW.path_none (fun x hx => by simp at hx)]; rfl
set_option maxRecDepth 100000 in
theorem law38_WalkPaths_long (A : Option Addr) (m c : Nat) (a b : Int) (w : World) (h : (60 : Int) < (m : Int)) :
    Calls Try.prog 14 #[.slice A m c, .agg #[.int .i64 a, .int .i64 b]] w fun e w' => e = .returned (.bool true) ∧ Below w.heap.size w w' := by
  go_enter Try.func14, Try.ntmps14
  go_wp2_with fail
  refine (law38_works _).mono ?_
  rintro e w1 ⟨rfl, h1⟩
  have hb := Lib.hid (bel_trans (bel_alloc (Below.refl w.heap.size w) (.cells #[.int .i64 a, .int .i64 b] 32)) h1)
  clear h1
  go_wp2_with fail
  go_ret
  exact ⟨rfl, hb.out⟩
def BackRel (W0 : World) (pn : Nat) (i : Value) (wr : World) : Prop := ∃ k : Nat, k ≤ pn ∧ i = .int .i64 (k : Nat) ∧ Below W0.heap.size W0 wr
set_option maxRecDepth 100000 in
set_option maxHeartbeats 16000000 in
theorem law38_WalkPaths (A : Option Addr) (m c : Nat) (xs : List Int) (a b : Int) (w : World) (hA : BytesAt w A m xs) :
    Calls Try.prog 14 #[.slice A m c, .agg #[.int .i64 a, .int .i64 b]] w fun e w' => e = .returned (.bool true) ∧ Below w.heap.size w w' := by
  by_cases hm : (60 : Int) < (m : Int)
  · exact law38_WalkPaths_long A m c a b w hm
  have hm2 : (m : Int) ≤ 60 := by omega
  have KG := fun W (hW : Below w.heap.size w W) => law38_grown c xs W (hA.keep hW) (by omega)
  replace KG := Lib.hid KG
  obtain ⟨w5, hw5⟩ : ∃ w5, w.alloc (.cells #[.int .i64 a, .int .i64 b] 32) = w5 := ⟨_, rfl⟩
  have T5 : RowAt w5 w.heap.size 32 [.int .i64 a, .int .i64 b] := by rw [← hw5]; exact RowAt.new w 32 _
  have D5 : Below w.heap.size w w5 := by rw [← hw5]; exact (by repeat (first | exact Below.refl _ _ | assumption | refine bel_drew ?_ | refine bel_drewN ?_ _ | refine bel_alloc ?_ _ | refine bel_set ?_ (by first | (dsimp only; omega) | (simp; done) | (simp; omega)) _ | refine bel_trans ?_ (by assumption)))
  have HW5 := Lib.hid hw5
  have D5 := Lib.hid D5
  have T5 := Lib.hid T5
  clear hA hm hw5
  go_enter Try.func14, Try.ntmps14
  go_upto_region 1 with (fail)
  rw [HW5.out]
  go_wp2_with fail
  refine (KG.out _ D5.out).mono ?_
  rintro e w1 ⟨Fb, own, V, S, N, rfl, FO1, RI1, hO⟩
  have HO := Lib.hid hO
  have t1 := T5.out.keep FO1.below
  obtain ⟨k, hk⟩ : ∃ k, N.length = k := ⟨_, rfl⟩
  obtain ⟨Ao, co, Ag, cg, Ac, mc, cc, f, An, cn, Ap, cp, rfl⟩ := RI1.form hk
  have HKN := Lib.hid hk
  clear hk hO
  go_upto_region 4 with (fail)
  refine region_name ?_
  rintro W7 hW7
  obtain ⟨rb, hrb⟩ : ∃ rb, w1.heap.size = rb := ⟨_, rfl⟩
  rw [hrb]
  have b7 : Below w1.heap.size w1 W7 := by rw [hW7]; exact (by repeat (first | exact Below.refl _ _ | assumption | refine bel_drew ?_ | refine bel_drewN ?_ _ | refine bel_alloc ?_ _ | refine bel_set ?_ (by first | (dsimp only; omega) | (simp; done) | (simp; omega)) _ | refine bel_trans ?_ (by assumption)))
  have r7 : RowAt W7 rb 58 [.slice Ao 30 co, .slice Ag 30 cg, .slice Ac mc cc, .int .i64 f, .slice An k cn, .slice Ap k cp] := by rw [hW7, ← hrb]; exact RowAt.new w1 58 [.slice Ao 30 co, .slice Ag 30 cg, .slice Ac mc cc, .int .i64 f, .slice An k cn, .slice Ap k cp]
  have t7 := t1.keep b7
  have FO7 := Lib.hid (FO1.keep b7)
  have RI7 := Lib.hid (RI1.keep b7)
  have hN := Lib.hid (RI7.out.2.le FO7.out.fi)
  have e0 : W7.cell? ⟨w.heap.size, 0, none⟩ = some (.int .i64 a) := by rw [t7.cell]; rfl
  have e1 : W7.cell? ⟨w.heap.size, 1, none⟩ = some (.int .i64 b) := by rw [t7.cell]; rfl
  have BW := Lib.hid (bel_trans D5.out FO7.out.below)
  have HR7 := Lib.hid r7
  clear hW7 b7 t1 FO1 RI1 hrb r7 t7
  go_upto_region 5 with (go_region)
  have KP := Lib.hid (fun W (hW : Below W7.heap.size W7 W) => walk_Path a b HO.out RI7.out.2 (FO7.out.keep hW))
  have KQ := Lib.hid (fun W (hW : Below W7.heap.size W7 W) => walk_Path b a HO.out RI7.out.2 (FO7.out.keep hW))
  have KRP := Lib.hid (fun W (hW : Below W7.heap.size W7 W) => ref38_Path a b HO.out hN.out (RI7.out.1.keep hW))
  have KL := Lib.hid (fun W (hW : Below W7.heap.size W7 W) => walk_Level a HO.out RI7.out.2 (FO7.out.keep hW))
  have KRL := Lib.hid (fun W (hW : Below W7.heap.size W7 W) => ref38_Level a HO.out hN.out (RI7.out.1.keep hW))
  have KE := Lib.hid (fun W (hW : Below W7.heap.size W7 W) => walk_Leaves a HO.out RI7.out.2 (FO7.out.keep hW))
  have KRE := Lib.hid (fun W (hW : Below W7.heap.size W7 W) => ref38_Leaves a HO.out hN.out (RI7.out.1.keep hW))
  have hback := pathW_back HO.out a b
  obtain ⟨PL, hPL⟩ : ∃ l, pathW N S.up a b = l := ⟨_, rfl⟩
  obtain ⟨QL, hQL⟩ : ∃ l, pathW N S.up b a = l := ⟨_, rfl⟩
  obtain ⟨LL, hLL⟩ : ∃ l, levW N S.up a = l := ⟨_, rfl⟩
  obtain ⟨EL, hEL⟩ : ∃ l, leafW N S.up a = l := ⟨_, rfl⟩
  rw [hPL] at KP KRP hback
  rw [hQL] at KQ hback
  rw [hLL] at KL KRL
  rw [hEL] at KE KRE
  obtain ⟨pn, hpn⟩ : ∃ l, PL.length = l := ⟨_, rfl⟩
  have HPN := Lib.hid hpn
  have HQN : Hid (QL.length = pn) := Lib.hid (by rw [hback, List.length_reverse]; exact hpn)
  have HBK : Hid (∀ i j x : Nat, i + j + 1 = pn → QL[i]? = some x → PL[j]? = some x) := Lib.hid (fun i j x h1 h2 => by
    rw [hback, List.getElem?_reverse (by omega)] at h2
    rw [show PL.length - 1 - i = j by omega] at h2
    exact h2)
  clear hPL hQL hLL hEL hpn hback e0 e1
  go_wp2_with fail
  refine (KP.out _ (by repeat (first | exact Below.refl _ _ | assumption | refine bel_drew ?_ | refine bel_drewN ?_ _ | refine bel_alloc ?_ _ | refine bel_set ?_ (by first | (dsimp only; omega) | (simp; done) | (simp; omega)) _ | refine bel_trans ?_ (by assumption)))).mono ?_
  rintro e w8 ⟨A8, n8, c8, rfl, i8, b8⟩
  have e8 : pn = n8 := by have := i8.1.1; rw [ints_len, HPN.out] at this; exact this
  subst e8
  have I8 := Lib.hid i8.1
  have B8 : Below W7.heap.size W7 w8 := bel_to (W0 := W7) (by repeat (first | exact Below.refl _ _ | assumption | refine bel_drew ?_ | refine bel_drewN ?_ _ | refine bel_alloc ?_ _ | refine bel_set ?_ (by first | (dsimp only; omega) | (simp; done) | (simp; omega)) _ | refine bel_trans ?_ (by assumption))) b8
  clear i8 b8 KP
  go_wp2_with fail
  refine (KQ.out _ B8).mono ?_
  rintro e w9 ⟨A9, n9, c9, rfl, i9, b9⟩
  have e9 : pn = n9 := by have := i9.1.1; rw [ints_len, HQN.out] at this; exact this
  subst e9
  have I9 := Lib.hid i9.1
  have I89 := Lib.hid (I8.out.keep b9)
  have B9 := Lib.hid (bel_trans B8 b9)
  clear i9 b9 KQ I8 B8
  go_wp2_with fail
  go_loopw [11] (fun i wr => BackRel w9 pn i wr) (fun i _ => pn - (intOf i).toNat)
  case atStart => exact ⟨0, Nat.zero_le _, rfl, Below.refl _ _⟩
  case round =>
    obtain ⟨i, hi, rfl, hb⟩ := hrel
    have HB := Lib.hid hb
    have hi0 : (0 : Int) ≤ (i : Int) := by omega
    by_cases hlt : i < pn
    · have hltI : (i : Int) < (pn : Int) := by omega
      obtain ⟨x, hx⟩ : ∃ x, QL[i]? = some x := ⟨_, List.getElem?_eq_getElem (by rw [HQN.out]; exact hlt)⟩
      obtain ⟨j, hj⟩ : ∃ j, pn - 1 - i = j := ⟨_, rfl⟩
      have hxp := HBK.out i j x (by omega) hx
      obtain ⟨-, bq, oq, rfl, hbq, xq⟩ := ints_at (I9.out.keep hb) hx
      obtain ⟨-, bp, op, rfl, hbp, xp⟩ := ints_at (I89.out.keep hb) hxp
      have w1 : IntKind.i64.wrap ((pn : Int) - 1) = (pn : Int) - 1 := by rw [IntKind.wrap_i64]; have := I9.out.2.1; omega
      have w2 : IntKind.i64.wrap ((pn : Int) - 1 - (i : Int)) = (j : Int) := by rw [IntKind.wrap_i64]; have := I9.out.2.1; omega
      have wi : IntKind.i64.wrap ((i : Int) + 1) = ((i + 1 : Nat) : Int) := by rw [IntKind.wrap_i64]; have := I9.out.2.1; omega
      have j0 : (0 : Int) ≤ (j : Int) := by omega
      have j1 : (j : Int) < (pn : Int) := by omega
      clear hx hxp hb hbq hbp hj
      go_upto_region 10 with (fail)
      go_region
      all_goals skip
      go_wp2_with fail
      go_roundw
      case rel => exact ⟨i + 1, by omega, rfl, HB.out.drew⟩
      case measure => simp [intOf]; omega
    · have hltI : ¬ (i : Int) < (pn : Int) := by omega
      have r9 := HR7.out.keep (bel_trans B9.out hb)
      have BZ := Lib.hid (bel_trans B9.out hb)
      have I8x := Lib.hid (I89.out.keep hb)
      clear hb
      go_upto_region 12 with (fail)
      have hS : Hid (∀ W : World, Below wr.heap.size wr W → (fun W : World => W.cell? ⟨rb, 0, none⟩ = some (.slice Ao 30 co) ∧ W.cell? ⟨rb, 1, none⟩ = some (.slice Ag 30 cg) ∧ W.cell? ⟨rb, 2, none⟩ = some (.slice Ac mc cc) ∧ W.cell? ⟨rb, 3, none⟩ = some (.int .i64 f) ∧ W.cell? ⟨rb, 4, none⟩ = some (.slice An k cn) ∧ W.cell? ⟨rb, 5, none⟩ = some (.slice Ap k cp)) W) := Lib.hid (fun W hW => ⟨(hW.cell (p := ⟨rb, 0, none⟩) r9.lt).trans ((r9.cell 0).trans rfl), (hW.cell (p := ⟨rb, 1, none⟩) r9.lt).trans ((r9.cell 1).trans rfl), (hW.cell (p := ⟨rb, 2, none⟩) r9.lt).trans ((r9.cell 2).trans rfl), (hW.cell (p := ⟨rb, 3, none⟩) r9.lt).trans ((r9.cell 3).trans rfl), (hW.cell (p := ⟨rb, 4, none⟩) r9.lt).trans ((r9.cell 4).trans rfl), (hW.cell (p := ⟨rb, 5, none⟩) r9.lt).trans ((r9.cell 5).trans rfl)⟩)
      clear r9
      refine wp_region_held_drew (S := (fun W : World => W.cell? ⟨rb, 0, none⟩ = some (.slice Ao 30 co) ∧ W.cell? ⟨rb, 1, none⟩ = some (.slice Ag 30 cg) ∧ W.cell? ⟨rb, 2, none⟩ = some (.slice Ac mc cc) ∧ W.cell? ⟨rb, 3, none⟩ = some (.int .i64 f) ∧ W.cell? ⟨rb, 4, none⟩ = some (.slice An k cn) ∧ W.cell? ⟨rb, 5, none⟩ = some (.slice Ap k cp))) (by kernel_rfl) ?_ (fun hHeld => ?_)
      focus ((try dsimp only); first | exact q | exact hS.out _ (by repeat (first | exact Below.refl _ _ | assumption | refine bel_drew ?_ | refine bel_drewN ?_ _ | refine bel_alloc ?_ _ | refine bel_trans ?_ (by assumption))))
      refine tk_yes 0 (v := ?_) rfl (by kernel_rfl) (by kernel_rfl) (by kernel_rfl) (fun _ _ _ h => h) (by kernel_rfl) (by assumption) ?_ ?_; rotate_left; (focus (intro w hSw; (try dsimp only at hSw); go_simp; (first | done | (with_reducible rfl)))); (try simp only [Act.put, List.setIfInBounds_toArray, List.set_cons_zero, List.set_cons_succ])
      refine tk_yes 1 (v := ?_) rfl (by kernel_rfl) (by kernel_rfl) (by kernel_rfl) (fun _ _ _ h => h) (by kernel_rfl) (by assumption) ?_ ?_; rotate_left; (focus (intro w hSw; (try dsimp only at hSw); go_simp; (first | done | (with_reducible rfl)))); (try simp only [Act.put, List.setIfInBounds_toArray, List.set_cons_zero, List.set_cons_succ])
      refine tk_yes 2 (v := ?_) rfl (by kernel_rfl) (by kernel_rfl) (by kernel_rfl) (fun _ _ _ h => h) (by kernel_rfl) (by assumption) ?_ ?_; rotate_left; (focus (intro w hSw; (try dsimp only at hSw); go_simp; (first | done | (with_reducible rfl)))); (try simp only [Act.put, List.setIfInBounds_toArray, List.set_cons_zero, List.set_cons_succ])
      refine tk_yes 3 (v := ?_) rfl (by kernel_rfl) (by kernel_rfl) (by kernel_rfl) (fun _ _ _ h => h) (by kernel_rfl) (by assumption) ?_ ?_; rotate_left; (focus (intro w hSw; (try dsimp only at hSw); go_simp; (first | done | (with_reducible rfl)))); (try simp only [Act.put, List.setIfInBounds_toArray, List.set_cons_zero, List.set_cons_succ])
      refine tk_yes 4 (v := ?_) rfl (by kernel_rfl) (by kernel_rfl) (by kernel_rfl) (fun _ _ _ h => h) (by kernel_rfl) (by assumption) ?_ ?_; rotate_left; (focus (intro w hSw; (try dsimp only at hSw); go_simp; (first | done | (with_reducible rfl)))); (try simp only [Act.put, List.setIfInBounds_toArray, List.set_cons_zero, List.set_cons_succ])
      refine tk_yes 5 (v := ?_) rfl (by kernel_rfl) (by kernel_rfl) (by kernel_rfl) (fun _ _ _ h => h) (by kernel_rfl) (by assumption) ?_ ?_; rotate_left; (focus (intro w hSw; (try dsimp only at hSw); go_simp; (first | done | (with_reducible rfl)))); (try simp only [Act.put, List.setIfInBounds_toArray, List.set_cons_zero, List.set_cons_succ])
      refine tk_yes 6 (v := ?_) rfl (by kernel_rfl) (by kernel_rfl) (by kernel_rfl) (fun _ _ _ h => h) (by kernel_rfl) (by assumption) ?_ ?_; rotate_left; (focus (intro w hSw; (try dsimp only at hSw); go_simp; (first | done | (with_reducible rfl)))); (try simp only [Act.put, List.setIfInBounds_toArray, List.set_cons_zero, List.set_cons_succ])
      refine tk_yes 7 (v := ?_) rfl (by kernel_rfl) (by kernel_rfl) (by kernel_rfl) (fun _ _ _ h => h) (by kernel_rfl) (by assumption) ?_ ?_; rotate_left; (focus (intro w hSw; (try dsimp only at hSw); go_simp; (first | done | (with_reducible rfl)))); (try simp only [Act.put, List.setIfInBounds_toArray, List.set_cons_zero, List.set_cons_succ])
      refine tk_yes 8 (v := ?_) rfl (by kernel_rfl) (by kernel_rfl) (by kernel_rfl) (fun _ _ _ h => h) (by kernel_rfl) (by assumption) ?_ ?_; rotate_left; (focus (intro w hSw; (try dsimp only at hSw); go_simp; (first | done | (with_reducible rfl)))); (try simp only [Act.put, List.setIfInBounds_toArray, List.set_cons_zero, List.set_cons_succ])
      refine tk_yes 9 (v := ?_) rfl (by kernel_rfl) (by kernel_rfl) (by kernel_rfl) (fun _ _ _ h => h) (by kernel_rfl) (by assumption) ?_ ?_; rotate_left; (focus (intro w hSw; (try dsimp only at hSw); go_simp; (first | done | (with_reducible rfl)))); (try simp only [Act.put, List.setIfInBounds_toArray, List.set_cons_zero, List.set_cons_succ])
      refine tk_call 10 rfl (by kernel_rfl) (by kernel_rfl) (fun KW hKW => ?_); go_simp; go_at_call 84; refine (KRP.out _ (bel_trans BZ.out (by repeat (first | exact Below.refl _ _ | assumption | refine bel_drew ?_ | refine bel_drewN ?_ _ | refine bel_alloc ?_ _ | refine bel_trans ?_ (by assumption))))).mono ?_; rintro e u10 ⟨A10, n10, c10, rfl, i10, hb10⟩; have B10 := bel_to (W0 := wr) (by repeat (first | exact Below.refl _ _ | assumption | refine bel_drew ?_ | refine bel_drewN ?_ _ | refine bel_alloc ?_ _ | refine bel_trans ?_ (by assumption))) hb10; have I10 := Lib.hid i10.1; have q := hS.out _ B10; clear i10; refine hKW.out _ _ ?_ (fun hHeld => ?_); (focus ((try dsimp only); first | exact q | exact hS.out _ (by repeat (first | exact Below.refl _ _ | assumption | refine bel_drew ?_ | refine bel_drewN ?_ _ | refine bel_alloc ?_ _ | refine bel_trans ?_ (by assumption))))); clear hKW KW; (try simp only [Act.put, List.setIfInBounds_toArray, List.set_cons_zero, List.set_cons_succ])
      refine tk_call 11 rfl (by kernel_rfl) (by kernel_rfl) (fun KW hKW => ?_); go_simp; go_at_call 45; refine (base_SameInts c8 c10 (I8x.out.keep B10) I10.out).mono ?_; rw [decide_eq_true rfl]; rintro e u11 ⟨rfl, hb11⟩; have B11 := bel_to (W0 := wr) (by repeat (first | exact Below.refl _ _ | assumption | refine bel_drew ?_ | refine bel_drewN ?_ _ | refine bel_alloc ?_ _ | refine bel_trans ?_ (by assumption))) hb11; have q := hS.out _ B11; clear hb10 hb11 I10; refine hKW.out _ _ ?_ (fun hHeld => ?_); (focus ((try dsimp only); first | exact q | exact hS.out _ (by repeat (first | exact Below.refl _ _ | assumption | refine bel_drew ?_ | refine bel_drewN ?_ _ | refine bel_alloc ?_ _ | refine bel_trans ?_ (by assumption))))); clear hKW KW; (try simp only [Act.put, List.setIfInBounds_toArray, List.set_cons_zero, List.set_cons_succ])
      refine tk_yes 12 (v := ?_) rfl (by kernel_rfl) (by kernel_rfl) (by kernel_rfl) (fun _ _ _ h => h) (by kernel_rfl) (by assumption) ?_ ?_; rotate_left; (focus (intro w hSw; (try dsimp only at hSw); go_simp; (first | done | (with_reducible rfl)))); (try simp only [Act.put, List.setIfInBounds_toArray, List.set_cons_zero, List.set_cons_succ])
      refine tk_yes 13 (v := ?_) rfl (by kernel_rfl) (by kernel_rfl) (by kernel_rfl) (fun _ _ _ h => h) (by kernel_rfl) (by assumption) ?_ ?_; rotate_left; (focus (intro w hSw; (try dsimp only at hSw); go_simp; (first | done | (with_reducible rfl)))); (try simp only [Act.put, List.setIfInBounds_toArray, List.set_cons_zero, List.set_cons_succ])
      refine tk_yes 14 (v := ?_) rfl (by kernel_rfl) (by kernel_rfl) (by kernel_rfl) (fun _ _ _ h => h) (by kernel_rfl) (by assumption) ?_ ?_; rotate_left; (focus (intro w hSw; (try dsimp only at hSw); go_simp; (first | done | (with_reducible rfl)))); (try simp only [Act.put, List.setIfInBounds_toArray, List.set_cons_zero, List.set_cons_succ])
      refine tk_yes 15 (v := ?_) rfl (by kernel_rfl) (by kernel_rfl) (by kernel_rfl) (fun _ _ _ h => h) (by kernel_rfl) (by assumption) ?_ ?_; rotate_left; (focus (intro w hSw; (try dsimp only at hSw); go_simp; (first | done | (with_reducible rfl)))); (try simp only [Act.put, List.setIfInBounds_toArray, List.set_cons_zero, List.set_cons_succ])
      refine tk_yes 17 (v := ?_) rfl (by kernel_rfl) (by kernel_rfl) (by kernel_rfl) (fun _ _ _ h => h) (by kernel_rfl) (by assumption) ?_ ?_; rotate_left; (focus (intro w hSw; (try dsimp only at hSw); go_simp; (first | done | (with_reducible rfl)))); (try simp only [Act.put, List.setIfInBounds_toArray, List.set_cons_zero, List.set_cons_succ])
      refine tk_yes 18 (v := ?_) rfl (by kernel_rfl) (by kernel_rfl) (by kernel_rfl) (fun _ _ _ h => h) (by kernel_rfl) (by assumption) ?_ ?_; rotate_left; (focus (intro w hSw; (try dsimp only at hSw); go_simp; (first | done | (with_reducible rfl)))); (try simp only [Act.put, List.setIfInBounds_toArray, List.set_cons_zero, List.set_cons_succ])
      refine tk_call 16 rfl (by kernel_rfl) (by kernel_rfl) (fun KW hKW => ?_); go_simp; go_at_call 85; refine (KL.out _ (bel_trans BZ.out (by repeat (first | exact Below.refl _ _ | assumption | refine bel_drew ?_ | refine bel_drewN ?_ _ | refine bel_alloc ?_ _ | refine bel_trans ?_ (by assumption))))).mono ?_; rintro e u16 ⟨A16, n16, c16, rfl, i16, hb16⟩; have B16 := bel_to (W0 := wr) (by repeat (first | exact Below.refl _ _ | assumption | refine bel_drew ?_ | refine bel_drewN ?_ _ | refine bel_alloc ?_ _ | refine bel_trans ?_ (by assumption))) hb16; have I16 := Lib.hid i16.1; have q := hS.out _ B16; clear i16; refine hKW.out _ _ ?_ (fun hHeld => ?_); (focus ((try dsimp only); first | exact q | exact hS.out _ (by repeat (first | exact Below.refl _ _ | assumption | refine bel_drew ?_ | refine bel_drewN ?_ _ | refine bel_alloc ?_ _ | refine bel_trans ?_ (by assumption))))); clear hKW KW; (try simp only [Act.put, List.setIfInBounds_toArray, List.set_cons_zero, List.set_cons_succ])
      refine tk_call 19 rfl (by kernel_rfl) (by kernel_rfl) (fun KW hKW => ?_); go_simp; go_at_call 86; refine (KRL.out _ (bel_trans BZ.out (by repeat (first | exact Below.refl _ _ | assumption | refine bel_drew ?_ | refine bel_drewN ?_ _ | refine bel_alloc ?_ _ | refine bel_trans ?_ (by assumption))))).mono ?_; rintro e u19 ⟨A19, n19, c19, rfl, i19, hb19⟩; have B19 := bel_to (W0 := wr) (by repeat (first | exact Below.refl _ _ | assumption | refine bel_drew ?_ | refine bel_drewN ?_ _ | refine bel_alloc ?_ _ | refine bel_trans ?_ (by assumption))) hb19; have I19 := Lib.hid i19.1; have q := hS.out _ B19; clear i19; refine hKW.out _ _ ?_ (fun hHeld => ?_); (focus ((try dsimp only); first | exact q | exact hS.out _ (by repeat (first | exact Below.refl _ _ | assumption | refine bel_drew ?_ | refine bel_drewN ?_ _ | refine bel_alloc ?_ _ | refine bel_trans ?_ (by assumption))))); clear hKW KW; (try simp only [Act.put, List.setIfInBounds_toArray, List.set_cons_zero, List.set_cons_succ])
      refine tk_call 20 rfl (by kernel_rfl) (by kernel_rfl) (fun KW hKW => ?_); go_simp; go_at_call 45; refine (base_SameInts c16 c19 (I16.out.keep hb19) I19.out).mono ?_; rw [decide_eq_true rfl]; rintro e u20 ⟨rfl, hb20⟩; have B20 := bel_to (W0 := wr) (by repeat (first | exact Below.refl _ _ | assumption | refine bel_drew ?_ | refine bel_drewN ?_ _ | refine bel_alloc ?_ _ | refine bel_trans ?_ (by assumption))) hb20; have q := hS.out _ B20; clear hb16 hb19 hb20 I16 I19; refine hKW.out _ _ ?_ (fun hHeld => ?_); (focus ((try dsimp only); first | exact q | exact hS.out _ (by repeat (first | exact Below.refl _ _ | assumption | refine bel_drew ?_ | refine bel_drewN ?_ _ | refine bel_alloc ?_ _ | refine bel_trans ?_ (by assumption))))); clear hKW KW; (try simp only [Act.put, List.setIfInBounds_toArray, List.set_cons_zero, List.set_cons_succ])
      refine tk_yes 21 (v := ?_) rfl (by kernel_rfl) (by kernel_rfl) (by kernel_rfl) (fun _ _ _ h => h) (by kernel_rfl) (by assumption) ?_ ?_; rotate_left; (focus (intro w hSw; (try dsimp only at hSw); go_simp; (first | done | (with_reducible rfl)))); (try simp only [Act.put, List.setIfInBounds_toArray, List.set_cons_zero, List.set_cons_succ])
      refine tk_yes 22 (v := ?_) rfl (by kernel_rfl) (by kernel_rfl) (by kernel_rfl) (fun _ _ _ h => h) (by kernel_rfl) (by assumption) ?_ ?_; rotate_left; (focus (intro w hSw; (try dsimp only at hSw); go_simp; (first | done | (with_reducible rfl)))); (try simp only [Act.put, List.setIfInBounds_toArray, List.set_cons_zero, List.set_cons_succ])
      refine tk_yes 23 (v := ?_) rfl (by kernel_rfl) (by kernel_rfl) (by kernel_rfl) (fun _ _ _ h => h) (by kernel_rfl) (by assumption) ?_ ?_; rotate_left; (focus (intro w hSw; (try dsimp only at hSw); go_simp; (first | done | (with_reducible rfl)))); (try simp only [Act.put, List.setIfInBounds_toArray, List.set_cons_zero, List.set_cons_succ])
      refine tk_yes 24 (v := ?_) rfl (by kernel_rfl) (by kernel_rfl) (by kernel_rfl) (fun _ _ _ h => h) (by kernel_rfl) (by assumption) ?_ ?_; rotate_left; (focus (intro w hSw; (try dsimp only at hSw); go_simp; (first | done | (with_reducible rfl)))); (try simp only [Act.put, List.setIfInBounds_toArray, List.set_cons_zero, List.set_cons_succ])
      refine tk_yes 26 (v := ?_) rfl (by kernel_rfl) (by kernel_rfl) (by kernel_rfl) (fun _ _ _ h => h) (by kernel_rfl) (by assumption) ?_ ?_; rotate_left; (focus (intro w hSw; (try dsimp only at hSw); go_simp; (first | done | (with_reducible rfl)))); (try simp only [Act.put, List.setIfInBounds_toArray, List.set_cons_zero, List.set_cons_succ])
      refine tk_yes 27 (v := ?_) rfl (by kernel_rfl) (by kernel_rfl) (by kernel_rfl) (fun _ _ _ h => h) (by kernel_rfl) (by assumption) ?_ ?_; rotate_left; (focus (intro w hSw; (try dsimp only at hSw); go_simp; (first | done | (with_reducible rfl)))); (try simp only [Act.put, List.setIfInBounds_toArray, List.set_cons_zero, List.set_cons_succ])
      refine tk_call 25 rfl (by kernel_rfl) (by kernel_rfl) (fun KW hKW => ?_); go_simp; go_at_call 87; refine (KE.out _ (bel_trans BZ.out (by repeat (first | exact Below.refl _ _ | assumption | refine bel_drew ?_ | refine bel_drewN ?_ _ | refine bel_alloc ?_ _ | refine bel_trans ?_ (by assumption))))).mono ?_; rintro e u25 ⟨A25, n25, c25, rfl, i25, hb25⟩; have B25 := bel_to (W0 := wr) (by repeat (first | exact Below.refl _ _ | assumption | refine bel_drew ?_ | refine bel_drewN ?_ _ | refine bel_alloc ?_ _ | refine bel_trans ?_ (by assumption))) hb25; have I25 := Lib.hid i25.1; have q := hS.out _ B25; clear i25; refine hKW.out _ _ ?_ (fun hHeld => ?_); (focus ((try dsimp only); first | exact q | exact hS.out _ (by repeat (first | exact Below.refl _ _ | assumption | refine bel_drew ?_ | refine bel_drewN ?_ _ | refine bel_alloc ?_ _ | refine bel_trans ?_ (by assumption))))); clear hKW KW; (try simp only [Act.put, List.setIfInBounds_toArray, List.set_cons_zero, List.set_cons_succ])
      refine tk_call 28 rfl (by kernel_rfl) (by kernel_rfl) (fun KW hKW => ?_); go_simp; go_at_call 88; refine (KRE.out _ (bel_trans BZ.out (by repeat (first | exact Below.refl _ _ | assumption | refine bel_drew ?_ | refine bel_drewN ?_ _ | refine bel_alloc ?_ _ | refine bel_trans ?_ (by assumption))))).mono ?_; rintro e u28 ⟨A28, n28, c28, rfl, i28, hb28⟩; have B28 := bel_to (W0 := wr) (by repeat (first | exact Below.refl _ _ | assumption | refine bel_drew ?_ | refine bel_drewN ?_ _ | refine bel_alloc ?_ _ | refine bel_trans ?_ (by assumption))) hb28; have I28 := Lib.hid i28.1; have q := hS.out _ B28; clear i28; refine hKW.out _ _ ?_ (fun hHeld => ?_); (focus ((try dsimp only); first | exact q | exact hS.out _ (by repeat (first | exact Below.refl _ _ | assumption | refine bel_drew ?_ | refine bel_drewN ?_ _ | refine bel_alloc ?_ _ | refine bel_trans ?_ (by assumption))))); clear hKW KW; (try simp only [Act.put, List.setIfInBounds_toArray, List.set_cons_zero, List.set_cons_succ])
      refine tk_call 29 rfl (by kernel_rfl) (by kernel_rfl) (fun KW hKW => ?_); go_simp; go_at_call 45; refine (base_SameInts c25 c28 (I25.out.keep hb28) I28.out).mono ?_; rw [decide_eq_true rfl]; rintro e u29 ⟨rfl, hb29⟩; have B29 := bel_to (W0 := wr) (by repeat (first | exact Below.refl _ _ | assumption | refine bel_drew ?_ | refine bel_drewN ?_ _ | refine bel_alloc ?_ _ | refine bel_trans ?_ (by assumption))) hb29; have q := hS.out _ B29; clear hb25 hb28 hb29 I25 I28; refine hKW.out _ _ ?_ (fun hHeld => ?_); (focus ((try dsimp only); first | exact q | exact hS.out _ (by repeat (first | exact Below.refl _ _ | assumption | refine bel_drew ?_ | refine bel_drewN ?_ _ | refine bel_alloc ?_ _ | refine bel_trans ?_ (by assumption))))); clear hKW KW; (try simp only [Act.put, List.setIfInBounds_toArray, List.set_cons_zero, List.set_cons_succ])
      refine tk_yes 30 (v := ?_) rfl (by kernel_rfl) (by kernel_rfl) (by kernel_rfl) (fun _ _ _ h => h) (by kernel_rfl) (by assumption) ?_ ?_; rotate_left; (focus (intro w hSw; (try dsimp only at hSw); go_simp; (first | done | (with_reducible rfl)))); (try simp only [Act.put, List.setIfInBounds_toArray, List.set_cons_zero, List.set_cons_succ])
      refine tk_yes 31 (v := ?_) rfl (by kernel_rfl) (by kernel_rfl) (by kernel_rfl) (fun _ _ _ h => h) (by kernel_rfl) (by assumption) ?_ ?_; rotate_left; (focus (intro w hSw; (try dsimp only at hSw); go_simp; (first | done | (with_reducible rfl)))); (try simp only [Act.put, List.setIfInBounds_toArray, List.set_cons_zero, List.set_cons_succ])
      refine tk_call 32 rfl (by kernel_rfl) (by kernel_rfl) (fun KW hKW => ?_); go_simp; go_at_call 70; refine (law38_works _).mono ?_; rintro e u32 ⟨rfl, hb32⟩; have B32 := bel_to (W0 := wr) (by repeat (first | exact Below.refl _ _ | assumption | refine bel_drew ?_ | refine bel_drewN ?_ _ | refine bel_alloc ?_ _ | refine bel_trans ?_ (by assumption))) hb32; have q := hS.out _ B32; clear hb32; refine hKW.out _ _ ?_ (fun hHeld => ?_); (focus ((try dsimp only); first | exact q | exact hS.out _ (by repeat (first | exact Below.refl _ _ | assumption | refine bel_drew ?_ | refine bel_drewN ?_ _ | refine bel_alloc ?_ _ | refine bel_trans ?_ (by assumption))))); clear hKW KW; (try simp only [Act.put, List.setIfInBounds_toArray, List.set_cons_zero, List.set_cons_succ])
      refine tk_yes 33 (v := ?_) rfl (by kernel_rfl) (by kernel_rfl) (by kernel_rfl) (fun _ _ _ h => h) (by kernel_rfl) (by assumption) ?_ ?_; rotate_left; (focus (intro w hSw; (try dsimp only at hSw); go_simp; (first | done | (with_reducible rfl)))); (try simp only [Act.put, List.setIfInBounds_toArray, List.set_cons_zero, List.set_cons_succ])
      refine tk_yes 34 (v := ?_) rfl (by kernel_rfl) (by kernel_rfl) (by kernel_rfl) (fun _ _ _ h => h) (by kernel_rfl) (by assumption) ?_ ?_; rotate_left; (focus (intro w hSw; (try dsimp only at hSw); go_simp; (first | done | (with_reducible rfl)))); (try simp only [Act.put, List.setIfInBounds_toArray, List.set_cons_zero, List.set_cons_succ])
      refine wpAnyH_done (by kernel_rfl) ?_ _
      go_wp2_with fail
      go_ret
      exact ⟨rfl, bel_trans BW.out (bel_trans' BZ.out B32 BZ.out.size)⟩
end Go.Proofs.Ytdhcmnbajkpjiaa
/-
  Openers for slices whose elements are rows of ints (arrays, structs, nested ones).
-/
namespace Go.Proofs.Ytdhcmnbajkpjiaa.Fr
open Go.ChangeShapes Go.WideShapes Go.ChangeAt Go.RowKit Go.Deep

section
variable {H : Type} {enc : TypeId × Value → H} {P : Program} {w : World}

/-- A type whose cells are S ints. -/
def FlatInt {H : Type} (enc : TypeId × Value → H) (P : Program) (w : World) (sp : Nat → Bool) (e S : Nat) : Prop :=
  ∀ fuel cs x, DataW.trod enc P w 0 sp true fuel e cs = some x → cs.length = S ∧ ∀ j, j < S → ∃ n : Int, cs[j]? = some (Value.int .i64 n) ∧ -9223372036854775808 ≤ n ∧ n ≤ 9223372036854775807

theorem FlatInt.int {sp : Nat → Bool} {e : Nat} (he : P.underlying e = some (.int .i64)) : FlatInt enc P w sp e 1 := by
  intro fuel cs x h
  obtain ⟨n, rfl, _, hw⟩ := DataW.trod_int he h
  refine ⟨rfl, fun j hj => ?_⟩
  obtain rfl : j = 0 := by omega
  exact ⟨n, rfl, bounds_i64 hw⟩

theorem FlatInt.array {sp : Nat → Bool} {e n it S : Nat} (he : P.underlying e = some (.array n it)) (hi : FlatInt enc P w sp it S) (hS : P.cellsOf it = S) (hc : P.cellsOf e = n * S) (h0 : 0 < S) : FlatInt enc P w sp e (n * S) := by
  intro fuel cs x h
  obtain ⟨xs, m, _, _, hlen, hxl, hg⟩ := DataW.trod_array he h
  refine ⟨hlen.trans hc, fun j hj => ?_⟩
  have hq : j / S < n := Nat.div_lt_of_lt_mul (by rw [Nat.mul_comm]; exact hj)
  have h1 := hg (j / S) hq
  have hx : xs[j / S]? = some (xs[j / S]'(by omega)) := List.getElem?_eq_getElem (by omega)
  rw [hx, hS] at h1
  obtain ⟨_, h2⟩ := hi _ _ _ h1
  obtain ⟨v, hv, hb⟩ := h2 (j % S) (Nat.mod_lt _ h0)
  refine ⟨v, ?_, hb⟩
  rw [List.getElem?_take, if_pos (Nat.mod_lt _ h0), List.getElem?_drop] at hv
  rw [← hv]
  congr 1
  have := Nat.div_add_mod j S
  rw [Nat.mul_comm] at this
  omega

theorem FlatInt.struct {sp : Nat → Bool} {e S : Nat} {fs : Array Field} (he : P.underlying e = some (.struct fs)) (hc : P.cellsOf e = S)
    (hf : ∀ j, j < S → ∃ (i : Nat) (f : Field), fs[i]? = some f ∧ f.offset ≤ j ∧ j < f.offset + P.cellsOf f.type ∧ FlatInt enc P w sp f.type (P.cellsOf f.type)) : FlatInt enc P w sp e S := by
  intro fuel cs x h
  obtain ⟨xs, m, _, _, hlen, hxl, hg⟩ := DataW.trod_struct he h
  refine ⟨hlen.trans hc, fun j hj => ?_⟩
  obtain ⟨i, f, hfi, h1, h2, hfl⟩ := hf j hj
  have hil : i < fs.size := (Array.getElem?_eq_some_iff.1 hfi).1
  have h3 := hg i f hfi
  have hx : xs[i]? = some (xs[i]'(by omega)) := List.getElem?_eq_getElem (by omega)
  rw [hx] at h3
  obtain ⟨_, h4⟩ := hfl _ _ _ h3
  obtain ⟨v, hv, hb⟩ := h4 (j - f.offset) (by omega)
  refine ⟨v, ?_, hb⟩
  rw [List.getElem?_take, if_pos (by omega), List.getElem?_drop] at hv
  rw [← hv]
  congr 1
  omega

/-- What the walk is told of a slice of rows of S ints that came in. -/
def IsRows (w : World) (S : Nat) (a : Option Addr) (len cap : Nat) (F : Nat → Nat → Int) : Prop :=
  (a = none ∧ len = 0 ∧ cap = 0) ∨
  ∃ b off, a = some ⟨b, off, none⟩ ∧ (0 < len → b < w.heap.size) ∧ len ≤ cap ∧ cap ≤ maxLen ∧
    ∀ i, i < cap → ∀ j, j < S → w.cell? ⟨b, off + i * S + j, none⟩ = some (.int .i64 (F i j)) ∧ -9223372036854775808 ≤ F i j ∧ F i j ≤ 9223372036854775807

theorem open_rows {t e S : Nat} {a : Option Addr} {len cap : Nat} {d : DataW H} {ps : List MemPlace} {base : Nat} (ht : P.underlying t = some (.slice e)) (hS : P.cellsOf e = S) (h0 : 0 < S)
    (hfl : FlatInt enc P w (fun _ => true) e S)
    (h : DataW.Trod enc P w 0 (fun _ => true) true t (.slice a len cap) d ps) (hv : Value.okWide P w .any base t (.slice a len cap)) : ∃ F, IsRows w S a len cap F := by
  obtain ⟨fuel, hf⟩ := h
  rcases open_slice ht hf with ⟨hcs, _⟩ | ⟨x, l, c, m, n, D, Pl, hcs, hb, hl, hm, hmm, hx, hi⟩
  · simp [Value.cells] at hcs
    obtain ⟨rfl, rfl, rfl⟩ := hcs
    exact ⟨fun _ _ => 0, .inl ⟨rfl, rfl, rfl⟩⟩
  · simp [Value.cells] at hcs
    obtain ⟨rfl, rfl, rfl⟩ := hcs
    simp only [if_true] at hmm
    subst hmm
    have hsp : x.spot = none := by
      unfold Value.okWide at hv
      rw [ht] at hv
      simp only at hv
      unfold Cell.okWide at hv
      rw [ht] at hv
      simp only at hv
      unfold Cell.ok at hv
      rw [ht] at hv
      simp only at hv
      exact hv.2.2.2.1
    obtain ⟨b, off, spot⟩ := x
    simp only at hsp
    subst hsp
    have key : ∀ i j, i < m → j < S → ∃ v : Int, w.cell? ⟨b, off + i * S + j, none⟩ = some (.int .i64 v) ∧ -9223372036854775808 ≤ v ∧ v ≤ 9223372036854775807 := by
      intro i j him hjS
      obtain ⟨cs', hc, ht'⟩ := hi i him
      rw [hS] at hc
      obtain ⟨hlen, hfj⟩ := hfl _ _ _ ht'
      obtain ⟨v, hv', hb'⟩ := hfj j hjS
      obtain ⟨_, _, hat⟩ := World.cells?_some hc
      have hcell := hat j hjS
      refine ⟨v, ?_, hb'⟩
      rw [← hv', ← hcell]
      congr 1
      simp only [Addr.add]
      split <;> split <;> simp_all [Nat.add_assoc]
    refine ⟨fun i j => match w.cell? ⟨b, off + i * S + j, none⟩ with | some (.int _ n) => n | _ => 0, .inr ⟨b, off, rfl, fun hl0 => ?_, hl, hm, fun i him j hjS => ?_⟩⟩
    · obtain ⟨v, hv', _⟩ := key 0 0 (by omega) h0
      exact World.block_lt_of_cell? _ _ hv'
    · obtain ⟨v, hv', hb'⟩ := key i j him hjS
      simp only [hv']
      exact ⟨trivial, hb'⟩
end
end Go.Proofs.Ytdhcmnbajkpjiaa.Fr
/-
  An opener for a slice of bytes.
-/
namespace Go.Proofs.Ytdhcmnbajkpjiaa.Fr
open Go.ChangeShapes Go.WideShapes Go.ChangeAt Go.RowKit Go.Deep

section
variable {H : Type} {enc : TypeId × Value → H} {P : Program} {w : World}
theorem open_bytes {t e : Nat} {a : Option Addr} {len cap : Nat} {d : DataW H} {ps : List MemPlace} {base : Nat} (ht : P.underlying t = some (.slice e)) (he : P.underlying e = some (.int .u8)) (hS : P.cellsOf e = 1)
    (h : DataW.Trod enc P w 0 (fun _ => true) true t (.slice a len cap) d ps) (hv : Value.okWide P w .any base t (.slice a len cap)) : ∃ xs, BytesAt w a len xs := by
  obtain ⟨fuel, hf⟩ := h
  rcases open_slice ht hf with ⟨hcs, _⟩ | ⟨x, l, c, m, n, D, Pl, hcs, hb, hl, hm, hmm, hx, hi⟩
  · simp [Value.cells] at hcs
    obtain ⟨rfl, rfl, rfl⟩ := hcs
    exact ⟨[], rfl, by omega, by simp, fun h => absurd h (by omega)⟩
  · simp [Value.cells] at hcs
    obtain ⟨rfl, rfl, rfl⟩ := hcs
    simp only [if_true] at hmm
    subst hmm
    have hsp : x.spot = none := by
      unfold Value.okWide at hv
      rw [ht] at hv
      simp only at hv
      unfold Cell.okWide at hv
      rw [ht] at hv
      simp only at hv
      unfold Cell.ok at hv
      rw [ht] at hv
      simp only at hv
      exact hv.2.2.2.1
    obtain ⟨b, off, spot⟩ := x
    simp only at hsp
    subst hsp
    have key : ∀ i, i < m → ∃ v : Int, w.cell? ⟨b, off + i, none⟩ = some (.int .u8 v) ∧ 0 ≤ v ∧ v < 256 := by
      intro i him
      obtain ⟨cs', hc, ht'⟩ := hi i him
      rw [hS] at hc
      obtain ⟨n, rfl, _, hw⟩ := DataW.trod_int he ht'
      obtain ⟨_, _, hat⟩ := World.cells?_some hc
      have hcell := hat 0 (by omega)
      refine ⟨n, ?_, ?_⟩
      · have e : w.cell? ⟨b, off + i, none⟩ = [Value.int .u8 n][0]? := by
          rw [← hcell]
          congr 1
          simp only [Addr.add]
          split <;> simp_all
        rw [e]; rfl
      · have := bounds_u8 hw
        omega
    refine ⟨(List.range len).map (fun i => match w.cell? ⟨b, off + i, none⟩ with | some (.int _ n) => n | _ => 0), by simp, by unfold maxLen at hm; omega, ?_, fun hn => ⟨b, off, rfl, ?_, ?_⟩⟩
    · intro y hy
      obtain ⟨i, hi1, rfl⟩ := List.mem_map.1 hy
      obtain ⟨v, hv', hb'⟩ := key i (by have := List.mem_range.1 hi1; omega)
      simp only [hv']
      exact hb'
    · obtain ⟨v, hv', _⟩ := key 0 (by omega)
      exact World.block_lt_of_cell? _ _ hv'
    · intro i hil
      obtain ⟨v, hv', hb'⟩ := key i (by omega)
      simp [List.getD, hil, hv']
end
end Go.Proofs.Ytdhcmnbajkpjiaa.Fr
