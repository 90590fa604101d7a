/-
  Layer 8 (spans): SameSpans; place (the binary search); Clone.
-/
import Derived.Test.YtfgfnfjeopjbgaaSpanH
import Derived.Test.YtfgfnfjeopjbgaaSpanD
import Derived.Laws.Cover3
namespace Go.Proofs.Ytfgfnfjeopjbgaa
open Go.RowKit
set_option linter.unusedVariables false
attribute [local go_sem] drewN_alloc drewN_setCell

/-! ### SameSpans -/
def SameSRel (w : World) (n : Nat) (xs ys : List PS.Sp) (i : Value) (wr : World) : Prop :=
  ∃ k : Nat, k ≤ n ∧ i = .int .i64 k ∧ (∀ j, j < k → xs.getD j (0, 0) = ys.getD j (0, 0)) ∧ Below w.heap.size w wr
theorem spans_eq_getD {n : Nat} {xs ys : List PS.Sp} (hx : xs.length = n) (hy : ys.length = n) (h : ∀ j, j < n → xs.getD j (0, 0) = ys.getD j (0, 0)) : xs = ys := by
  apply List.ext_getElem (by omega)
  intro i h1 h2
  have := h i (by omega)
  simpa [List.getD, h1, h2] using this
theorem base_SameSpans_len (A B : Option Addr) (n m c d : Nat) (w : World) (hne : ((n : Int) != (m : Int)) = true) :
    Calls Try.prog 34 #[.slice A n c, .slice B m d] w fun e w' => e = .returned (.bool false) ∧ Below w.heap.size w w' := by
  go_enter Try.func34, Try.ntmps34
  go_wp2
  go_ret
  exact ⟨rfl, (by repeat (first | exact Below.refl _ _ | assumption | refine bel_drew ?_ | refine bel_drewN ?_ _ | refine bel_alloc ?_ _ | refine bel_set ?_ (by first | (dsimp only; omega) | (simp; done) | (simp; omega)) _ | refine bel_trans ?_ (by assumption)))⟩
theorem base_SameSpans_nil (A B : Option Addr) (c d : Nat) (w : World) :
    Calls Try.prog 34 #[.slice A 0 c, .slice B 0 d] w fun e w' => e = .returned (.bool true) ∧ Below w.heap.size w w' := by
  go_enter Try.func34, Try.ntmps34
  go_wp2
  refine wp_loop_rounds 1 ?_
  rw [rounds_succ]
  go_wp2
  go_ret
  exact ⟨rfl, (by repeat (first | exact Below.refl _ _ | assumption | refine bel_drew ?_ | refine bel_drewN ?_ _ | refine bel_alloc ?_ _ | refine bel_set ?_ (by first | (dsimp only; omega) | (simp; done) | (simp; omega)) _ | refine bel_trans ?_ (by assumption)))⟩

set_option maxHeartbeats 2000000 in
theorem base_SameSpans_some (b off b' off' n c d : Nat) (xs ys : List PS.Sp) (w : World) (hx : SpansAt w (some ⟨b, off, none⟩) n xs) (hy : SpansAt w (some ⟨b', off', none⟩) n ys) :
    Calls Try.prog 34 #[.slice (some ⟨b, off, none⟩) n c, .slice (some ⟨b', off', none⟩) n d] w fun e w' => e = .returned (.bool (decide (xs = ys))) ∧ Below w.heap.size w w' := by
  have hn := hx.2.1
  obtain ⟨R, hR⟩ : ∃ R, decide (xs = ys) = R := ⟨_, rfl⟩
  rw [hR]
  replace hR := Lib.hid hR
  replace hx := Lib.hid hx
  replace hy := Lib.hid hy
  go_enter Try.func34, Try.ntmps34
  go_wp2_with fail
  go_loopw [5] (fun i wr => SameSRel w n xs ys i wr) (fun i _ => n - (intOf i).toNat)
  case atStart => exact ⟨0, Nat.zero_le _, rfl, fun j hj => absurd hj (by omega), Below.refl _ _⟩
  case round =>
    obtain ⟨k, hk, rfl, hpre, hbel⟩ := hrel
    have HP := Lib.hid hpre
    clear hpre
    have j1 : (0 : Int) ≤ (k : Int) := by omega
    by_cases hlt : (k : Int) < n
    · obtain ⟨x, m, hs, x0, x1, bx1, bx2⟩ := hx.out.row hbel (k := k) (by omega)
      obtain ⟨y, q, ht, y0, y1, by1, by2⟩ := hy.out.row hbel (k := k) (by omega)
      have hkx : k < xs.length := by have := hx.out.1; omega
      have hky : k < ys.length := by have := hy.out.1; omega
      have gx : xs.getD k (0, 0) = (x, m) := by rw [getD_at hkx]; exact hs hkx
      have gy : ys.getD k (0, 0) = (y, q) := by rw [getD_at hky]; exact ht hky
      have GX := Lib.hid gx
      have GY := Lib.hid gy
      have EQ := eql_span x m y q
      clear hs ht gx gy
      by_cases hxy : x = y ∧ m = q
      · obtain ⟨rfl, rfl⟩ := hxy
        rw [show (x == x && m == m) = true by simp] at EQ
        go_wp2_with fail
        go_quiet (fail)
        go_wp2_with fail
        go_roundw
        case rel =>
          refine ⟨k + 1, by omega, by go_num, fun j hj => ?_, (by repeat (first | exact Below.refl _ _ | assumption | refine bel_drew ?_ | refine bel_drewN ?_ _ | refine bel_alloc ?_ _ | refine bel_set ?_ (by first | (dsimp only; omega) | (simp; done) | (simp; omega)) _ | refine bel_trans ?_ (by assumption)))⟩
          by_cases hjk : j = k
          · rw [hjk, GX.out, GY.out]
          · exact HP.out j (by omega)
        case measure => simp [intOf]; omega
      · rw [show (x == y && m == q) = false by simpa using hxy] at EQ
        have hne : false = R := by
          rw [← hR.out]
          refine (decide_eq_false fun h => hxy ?_).symm
          have := GX.out
          rw [h, GY.out] at this
          exact ⟨(Prod.mk.inj this).1.symm, (Prod.mk.inj this).2.symm⟩
        have HNE := Lib.hid hne
        clear hxy hne
        go_wp2_with fail
        go_quiet (fail)
        go_wp2_with fail
        go_ret
        exact ⟨ret_bool HNE.out, (by repeat (first | exact Below.refl _ _ | assumption | refine bel_drew ?_ | refine bel_drewN ?_ _ | refine bel_alloc ?_ _ | refine bel_set ?_ (by first | (dsimp only; omega) | (simp; done) | (simp; omega)) _ | refine bel_trans ?_ (by assumption)))⟩
    · have hkn : k = n := by omega
      have heq : xs = ys := spans_eq_getD hx.out.1 hy.out.1 (fun j hj => HP.out j (by omega))
      have HE : true = R := by rw [← hR.out, decide_eq_true heq]
      replace HE := Lib.hid HE
      clear hkn heq
      go_wp2_with fail
      go_ret
      exact ⟨ret_bool HE.out, (by repeat (first | exact Below.refl _ _ | assumption | refine bel_drew ?_ | refine bel_drewN ?_ _ | refine bel_alloc ?_ _ | refine bel_set ?_ (by first | (dsimp only; omega) | (simp; done) | (simp; omega)) _ | refine bel_trans ?_ (by assumption)))⟩

theorem base_SameSpans {A B : Option Addr} {n m : Nat} {xs ys : List PS.Sp} (c d : Nat) {w : World} (hx : SpansAt w A n xs) (hy : SpansAt w B m ys) :
    Calls Try.prog 34 #[.slice A n c, .slice B m d] w fun e w' => e = .returned (.bool (decide (xs = ys))) ∧ Below w.heap.size w w' := by
  by_cases hnm : n = m
  · subst hnm
    by_cases h0 : n = 0
    · subst h0
      have e1 : xs = [] := List.eq_nil_of_length_eq_zero hx.1
      have e2 : ys = [] := List.eq_nil_of_length_eq_zero hy.1
      subst e1 e2
      exact base_SameSpans_nil A B c d w
    · obtain ⟨b, off, rfl, -, -⟩ := hx.2.2.2 (by omega)
      obtain ⟨b', off', rfl, -, -⟩ := hy.2.2.2 (by omega)
      exact base_SameSpans_some b off b' off' n c d xs ys w hx hy
  · have hne : xs ≠ ys := by rintro rfl; exact hnm (hx.1.symm.trans hy.1)
    rw [show decide (xs = ys) = false by simpa using hne]
    exact base_SameSpans_len A B n m c d w (by simp; omega)

/-! ### place -/
def cmpV (s x : Int) : Int := if s < x then -1 else if x < s then 1 else 0
theorem place1 (s m x : Int) (w : World) :
    Calls Try.prog 97 #[.agg #[.int .i64 s, .int .i64 m], .int .i64 x] w fun e w' => e = .returned (.int .i64 (cmpV s x)) ∧ Below w.heap.size w w' := by
  unfold cmpV
  by_cases h1 : s < x
  · rw [if_pos h1]
    go_enter Try.func97, Try.ntmps97
    go_wp2_with fail
    go_ret
    exact ⟨rfl, (by repeat (first | exact Below.refl _ _ | assumption | refine bel_drew ?_ | refine bel_drewN ?_ _ | refine bel_alloc ?_ _ | refine bel_set ?_ (by first | (dsimp only; omega) | (simp; done) | (simp; omega)) _ | refine bel_trans ?_ (by assumption)))⟩
  · rw [if_neg h1]
    replace h1 : x ≤ s := by omega
    by_cases h2 : x < s
    · rw [if_pos h2]
      go_enter Try.func97, Try.ntmps97
      go_wp2_with fail
      go_ret
      exact ⟨rfl, (by repeat (first | exact Below.refl _ _ | assumption | refine bel_drew ?_ | refine bel_drewN ?_ _ | refine bel_alloc ?_ _ | refine bel_set ?_ (by first | (dsimp only; omega) | (simp; done) | (simp; omega)) _ | refine bel_trans ?_ (by assumption)))⟩
    · rw [if_neg h2]
      replace h2 : s ≤ x := by omega
      go_enter Try.func97, Try.ntmps97
      go_wp2_with fail
      go_ret
      exact ⟨rfl, (by repeat (first | exact Below.refl _ _ | assumption | refine bel_drew ?_ | refine bel_drewN ?_ _ | refine bel_alloc ?_ _ | refine bel_set ?_ (by first | (dsimp only; omega) | (simp; done) | (simp; omega)) _ | refine bel_trans ?_ (by assumption)))⟩

/-- What place tells: the place, and whether a span begins there. -/
def PlaceGives (w : World) (l : List PS.Sp) (x : Int) (e : Ending) (w' : World) : Prop :=
  ∃ (i : Nat) (f : Bool), e = .returned (.tuple #[.int .i64 i, .bool f]) ∧ i ≤ l.length ∧ (f = true ↔ ∃ h : i < l.length, l[i].1 = x) ∧ (PS.right l = true → PS.split l x i) ∧ Below w.heap.size w w'

def BinRel (w : World) (l : List PS.Sp) (x : Int) (n : Nat) (si sj : Value) (wr : World) : Prop :=
  ∃ i j : Nat, i ≤ j ∧ j ≤ n ∧ si = .int .i64 i ∧ sj = .int .i64 j ∧
    (PS.right l = true → (∀ k, k < i → ∀ (hk : k < l.length), l[k].1 < x) ∧ (∀ k, j ≤ k → ∀ (hk : k < l.length), x ≤ l[k].1)) ∧ Below w.heap.size w wr

set_option maxHeartbeats 4000000 in
theorem spans_BinarySearch (b off n c : Nat) (l : List PS.Sp) (x : Int) (w : World) (h : SpansAt w (some ⟨b, off, none⟩) n l) (hn : n ≤ 1048576) :
    Calls Try.prog 96 #[.slice (some ⟨b, off, none⟩) n c, .int .i64 x, .func (.func 97) #[] #[]] w (PlaceGives w l x) := by
  have H := Lib.hid h
  have hn' : (n : Int) ≤ 1048576 := by omega
  clear h
  go_enter Try.func96, Try.ntmps96
  go_wp2_with fail
  go_loopw [9, 10] (fun si sj wr => BinRel w l x n si sj wr) (fun si sj _ => (intOf sj - intOf si).toNat)
  case atStart => exact ⟨0, n, Nat.zero_le _, Nat.le_refl _, rfl, rfl, fun _ => ⟨fun k hk => absurd hk (by omega), fun k hk hkl => absurd hkl (by have := H.out.1; omega)⟩, Below.refl _ _⟩
  case round =>
    obtain ⟨i, j, hij, hj, rfl, rfl, hspl, hbel⟩ := hrel
    have j1 : (0 : Int) ≤ (i : Int) := by omega
    have j2 : (i : Int) ≤ 1048576 := by omega
    have j3 : (0 : Int) ≤ (j : Int) := by omega
    have j4 : (j : Int) ≤ 1048576 := by omega
    have HS := Lib.hid hspl
    clear hspl
    by_cases hlt : (i : Int) < j
    · have hkn : (i + j) / 2 < n := by omega
      have hkl : (i + j) / 2 < l.length := by have := H.out.1; omega
      obtain ⟨s, m, hs, x0, x1, bx1, bx2⟩ := H.out.row hbel hkn
      have P := place1 s m x wr
      unfold cmpV at P
      by_cases hsx : s < x
      · rw [if_pos hsx] at P
        have HN : BinRel w l x n (.int .i64 (((i + j) / 2 + 1 : Nat) : Int)) (.int .i64 j) wr := ⟨(i + j) / 2 + 1, j, by omega, hj, rfl, rfl, fun hr => ⟨fun k hk hkl' => by
          have := PS.right_mono hr (a := k) (b := (i + j) / 2) (by omega) hkl
          rw [hs hkl] at this
          dsimp only at this
          omega, (HS.out hr).2⟩, hbel⟩
        have HN' := Lib.hid HN
        replace P := Lib.hid P
        clear hs HN hkl
        go_wp2_with fail
        refine P.out.mono ?_
        rintro e w5 ⟨rfl, h5⟩
        go_wp2_with fail
        go_roundw
        case rel =>
          obtain ⟨i', j', a1, a2, a3, a4, a5, a6⟩ := HN'.out
          refine ⟨i', j', a1, a2, ?_, a4, a5, (by repeat (first | exact Below.refl _ _ | assumption | refine bel_drew ?_ | refine bel_drewN ?_ _ | refine bel_alloc ?_ _ | refine bel_set ?_ (by first | (dsimp only; omega) | (simp; done) | (simp; omega)) _ | refine bel_trans ?_ (by assumption)))⟩
          rw [← a3, show (((i + j) / 2 + 1 : Nat) : Int) = ((i : Int) + j) / 2 + 1 by omega]
        case measure => simp [intOf]; omega
      · rw [if_neg hsx] at P
        have HN : BinRel w l x n (.int .i64 i) (.int .i64 (((i + j) / 2 : Nat) : Int)) wr := ⟨i, (i + j) / 2, by omega, by omega, rfl, rfl, fun hr => ⟨(HS.out hr).1, fun k hk hkl' => by
          have := PS.right_mono hr (a := (i + j) / 2) (b := k) hk hkl'
          rw [hs hkl] at this
          dsimp only at this
          omega⟩, hbel⟩
        have HN' := Lib.hid HN
        obtain ⟨cv, hcv⟩ : ∃ cv, (if x < s then (1 : Int) else 0) = cv := ⟨_, rfl⟩
        rw [hcv] at P
        have hcv0 : 0 ≤ cv := by rw [← hcv]; split <;> omega
        replace P := Lib.hid P
        clear hs HN hkl hcv hsx
        go_wp2_with fail
        refine P.out.mono ?_
        rintro e w5 ⟨rfl, h5⟩
        go_wp2_with fail
        go_roundw
        case rel =>
          obtain ⟨i', j', a1, a2, a3, a4, a5, a6⟩ := HN'.out
          refine ⟨i', j', a1, a2, a3, ?_, a5, (by repeat (first | exact Below.refl _ _ | assumption | refine bel_drew ?_ | refine bel_drewN ?_ _ | refine bel_alloc ?_ _ | refine bel_set ?_ (by first | (dsimp only; omega) | (simp; done) | (simp; omega)) _ | refine bel_trans ?_ (by assumption)))⟩
          rw [← a4, show (((i + j) / 2 : Nat) : Int) = ((i : Int) + j) / 2 by omega]
        case measure => simp [intOf]; omega
    · have hji : i = j := by omega
      subst hji
      have HG : ∀ f : Bool, (f = true ↔ ∃ h : i < l.length, l[i].1 = x) → ∀ w', Below w.heap.size w w' → PlaceGives w l x (.returned (.tuple #[.int .i64 i, .bool f])) w' :=
        fun f hf w' hb => ⟨i, f, rfl, by have := H.out.1; omega, hf, HS.out, hb⟩
      replace HG := Lib.hid HG
      by_cases hin : (i : Int) < n
      · have hkl : i < l.length := by have := H.out.1; omega
        obtain ⟨s, m, hs, x0, x1, bx1, bx2⟩ := H.out.row hbel (k := i) (by omega)
        have P := place1 s m x wr
        by_cases hsx : s = x
        · rw [show cmpV s x = 0 by unfold cmpV; rw [if_neg (by omega), if_neg (by omega)]] at P
          have HT := HG.out true ⟨fun _ => ⟨hkl, by rw [hs hkl]; exact hsx⟩, fun _ => rfl⟩
          replace HT := Lib.hid HT
          replace P := Lib.hid P
          replace hsx := Lib.hid hsx
          clear hs hkl
          go_wp2_with fail
          refine P.out.mono ?_
          rintro e w5 ⟨rfl, h5⟩
          go_wp2_with fail
          go_ret2
          exact HT.out _ (by repeat (first | exact Below.refl _ _ | assumption | refine bel_drew ?_ | refine bel_drewN ?_ _ | refine bel_alloc ?_ _ | refine bel_set ?_ (by first | (dsimp only; omega) | (simp; done) | (simp; omega)) _ | refine bel_trans ?_ (by assumption)))
        · have HT := HG.out false ⟨(fun h => by cases h), fun ⟨h, e⟩ => by rw [hs hkl] at e; exact absurd e hsx⟩
          obtain ⟨cv, hcv⟩ : ∃ cv, cmpV s x = cv := ⟨_, rfl⟩
          rw [hcv] at P
          have hcv0 : (cv == 0) = false := by
            rw [← hcv]; unfold cmpV
            by_cases h1 : s < x
            · rw [if_pos h1]; rfl
            · rw [if_neg h1, if_pos (by omega)]; rfl
          replace HT := Lib.hid HT
          replace P := Lib.hid P
          clear hs hkl hcv hsx
          go_wp2_with fail
          refine P.out.mono ?_
          rintro e w5 ⟨rfl, h5⟩
          go_wp2_with fail
          go_ret2
          exact HT.out _ (by repeat (first | exact Below.refl _ _ | assumption | refine bel_drew ?_ | refine bel_drewN ?_ _ | refine bel_alloc ?_ _ | refine bel_set ?_ (by first | (dsimp only; omega) | (simp; done) | (simp; omega)) _ | refine bel_trans ?_ (by assumption)))
      · have HT := HG.out false ⟨(fun h => by cases h), fun ⟨h, _⟩ => absurd h (by have := H.out.1; omega)⟩
        replace HT := Lib.hid HT
        go_wp2_with fail
        go_ret2
        exact HT.out _ (by repeat (first | exact Below.refl _ _ | assumption | refine bel_drew ?_ | refine bel_drewN ?_ _ | refine bel_alloc ?_ _ | refine bel_set ?_ (by first | (dsimp only; omega) | (simp; done) | (simp; omega)) _ | refine bel_trans ?_ (by assumption)))

theorem spans_BinarySearch_0 (A : Option Addr) (c : Nat) (x : Int) (fv : Value) (w : World) :
    Calls Try.prog 96 #[.slice A 0 c, .int .i64 x, fv] w (PlaceGives w [] x) := by
  have HG : ∀ w', Below w.heap.size w w' → PlaceGives w [] x (.returned (.tuple #[.int .i64 0, .bool false])) w' :=
    fun w' hb => ⟨0, false, rfl, Nat.le_refl _, by simp, fun _ => ⟨fun k hk => absurd hk (by omega), fun k hk hkl => absurd hkl (by simp)⟩, hb⟩
  replace HG := Lib.hid HG
  go_enter Try.func96, Try.ntmps96
  go_wp2_with fail
  refine wp_loop_rounds 1 ?_
  rw [rounds_succ]
  go_wp2_with fail
  go_ret2
  exact HG.out _ (by repeat (first | exact Below.refl _ _ | assumption | refine bel_drew ?_ | refine bel_drewN ?_ _ | refine bel_alloc ?_ _ | refine bel_set ?_ (by first | (dsimp only; omega) | (simp; done) | (simp; omega)) _ | refine bel_trans ?_ (by assumption)))

theorem spans_place {A : Option Addr} {n : Nat} {l : List PS.Sp} (c : Nat) (x : Int) {w : World} (h : SpansAt w A n l) (hn : n ≤ 1048576) :
    Calls Try.prog 79 #[.slice A n c, .int .i64 x] w (PlaceGives w l x) := by
  have K : Calls Try.prog 96 #[.slice A n c, .int .i64 x, .func (.func 97) #[] #[]] w (PlaceGives w l x) := by
    by_cases h0 : 0 < n
    · obtain ⟨b, off, rfl, -, -⟩ := h.2.2.2 h0
      exact spans_BinarySearch b off n c l x w h hn
    · obtain rfl : n = 0 := by omega
      obtain rfl := List.eq_nil_of_length_eq_zero h.1
      exact spans_BinarySearch_0 A c x _ w
  have HG : ∀ (i : Nat) (f : Bool) w', PlaceGives w l x (.returned (.tuple #[.int .i64 i, .bool f])) w' → PlaceGives w l x (.returned (.tuple #[.int .i64 i, .bool f])) w' := fun _ _ _ h => h
  replace K := Lib.hid K
  clear h HG
  go_enter Try.func79, Try.ntmps79
  go_wp2_with fail
  refine K.out.mono ?_
  rintro e w5 hp
  obtain ⟨i, f, rfl, hp'⟩ : ∃ (i : Nat) (f : Bool), e = .returned (.tuple #[.int .i64 i, .bool f]) ∧ Hid (PlaceGives w l x (.returned (.tuple #[.int .i64 i, .bool f])) w5) := by
    obtain ⟨i, f, rfl, r⟩ := hp
    exact ⟨i, f, rfl, Lib.hid ⟨i, f, rfl, r⟩⟩
  clear hp
  go_wp2_with fail
  go_ret2
  exact hp'.out

/-! ### Clone -/
/-- A slice in new memory that holds l. -/
def GivesS1 (w : World) (l : List PS.Sp) (e : Ending) (w' : World) : Prop := ∃ v, e = .returned v ∧ OwnS w.heap.size w' v l ∧ Below w.heap.size w w'
set_option maxRecDepth 100000 in
theorem spans_Clone_nil (c : Nat) (w : World) :
    Calls Try.prog 80 #[.slice none 0 0] w (GivesS1 w []) := by
  have hnil : (binOp .eql 30 (.slice none 0 0) (.slice none 0 0)).run Try.prog w = .ok (.bool true) w := by simp only [binOp]; simp [run_equal_slice_nil w _ _ none 0 0 Try.underlying30]
  have HG : GivesS1 w [] (.returned (.slice none 0 0)) w := ⟨_, rfl, OwnS.nil _ _, Below.refl _ _⟩
  replace HG := Lib.hid HG
  go_enter Try.func80, Try.ntmps80
  go_wp2_with fail
  go_ret
  exact HG.out
set_option maxRecDepth 100000 in
set_option maxHeartbeats 1000000 in
theorem spans_Clone_some (b off n c : Nat) (l : List PS.Sp) (w : World) (h : SpansAt w (some ⟨b, off, none⟩) n l) (hn : n ≤ 1048576) :
    Calls Try.prog 80 #[.slice (some ⟨b, off, none⟩) n c] w (GivesS1 w l) := by
  have hnil : (binOp .eql 30 (.slice (some ⟨b, off, none⟩) n c) (.slice none 0 0)).run Try.prog w = .ok (.bool false) w := by simp only [binOp]; simp [run_equal_slice_nil w _ _ (some ⟨b, off, none⟩) n c Try.underlying30]
  have hsrc := (h.keep (bel_alloc (Below.refl _ _) (.cells #[] 37))).src'
  have hown : OwnS w.heap.size (w.alloc (.cells #[] 37)) (.slice (some ⟨w.heap.size, 0, none⟩) 0 0) [] := own_emptyS 2 w _
  replace hsrc := Lib.hid hsrc
  replace hown := Lib.hid hown
  clear h
  go_enter Try.func80, Try.ntmps80
  go_wp2_with (at_builtin; refine app_list rfl _ _ rfl w.heap.size _ [] rfl hown.out (some ⟨b, off, none⟩) n c l rfl hsrc.out (by simpa using hn) (by simp) ?_; intro v' w' ho hb; replace ho := Lib.hid ho)
  have HG : GivesS1 w l (.returned v') w' := ⟨_, rfl, by simpa using ho.out, bel_trans' (bel_alloc (Below.refl _ _) _) hb (Nat.le_refl _)⟩
  replace HG := Lib.hid HG
  clear ho hb
  go_wp2_with fail
  go_ret
  exact HG.out
end Go.Proofs.Ytfgfnfjeopjbgaa
