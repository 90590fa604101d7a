/-
  Members in memory; slices.IndexFunc and ContainsFunc over them; order.may and its reference.
-/
import Derived.Test.YthmjbfocpdiikaaAcctGr
import Derived.Test.YthmjbfocpdiikaaPlainMem
import Derived.Test.YthmjbfocpdiikaaBase3
import Derived.BigQuiet
import Derived.Deep.QuietTactic
namespace Go.Proofs.Ythmjbfocpdiikaa
open Go.RowKit
set_option linter.unusedVariables false
set_option linter.unusedSimpArgs false
attribute [local go_sem] drewN_alloc drewN_setCell

def Bd (x : Int) : Prop := -9223372036854775808 ≤ x ∧ x ≤ 9223372036854775807
def MemBd (m : PO.Mem) : Prop := Bd m.1 ∧ Bd m.2.1 ∧ Bd m.2.2.1 ∧ Bd m.2.2.2
/-- The cells of the member m at ⟨b, off⟩. -/
def MemCells (w : World) (b off : Nat) (m : PO.Mem) : Prop :=
  w.cell? ⟨b, off, none⟩ = some (.int .i64 m.1) ∧ w.cell? ⟨b, off + 1, none⟩ = some (.int .i64 m.2.1) ∧ w.cell? ⟨b, off + 2, none⟩ = some (.int .i64 m.2.2.1) ∧ w.cell? ⟨b, off + 3, none⟩ = some (.int .i64 m.2.2.2)
theorem MemCells.keep {B : Nat} {w w' : World} {b off : Nat} {m : PO.Mem} (h : MemCells w b off m) (k : Below B w w') (hb : b < B) : MemCells w' b off m :=
  ⟨(k.cell hb).trans h.1, (k.cell hb).trans h.2.1, (k.cell hb).trans h.2.2.1, (k.cell hb).trans h.2.2.2⟩
/-- The slice value of length n at A reads as the members l. -/
def MemAt (w : World) (A : Option Addr) (n : Nat) (l : List PO.Mem) : Prop :=
  l.length = n ∧ n ≤ 9223372036854775807 ∧ (∀ m ∈ l, MemBd m) ∧ (0 < n → ∃ b off, A = some ⟨b, off, none⟩ ∧ b < w.heap.size ∧ ∀ i, i < n → MemCells w b (off + i * 4) (l.getD i PO.m0))
theorem MemAt.keep {w w' : World} {A : Option Addr} {n : Nat} {l : List PO.Mem} (h : MemAt w A n l) (k : Below w.heap.size w w') : MemAt w' A n l :=
  ⟨h.1, h.2.1, h.2.2.1, fun hn => by
    obtain ⟨b, off, e, hb, hc⟩ := h.2.2.2 hn
    exact ⟨b, off, e, Nat.lt_of_lt_of_le hb k.size, fun i hi => (hc i hi).keep k hb⟩⟩
theorem MemAt.nil {w : World} {A : Option Addr} : MemAt w A 0 [] := ⟨rfl, by omega, fun _ h => by simp at h, fun h => absurd h (by omega)⟩
theorem MemAt.bd {w : World} {A : Option Addr} {n : Nat} {l : List PO.Mem} (h : MemAt w A n l) {k : Nat} (hk : k < n) : MemBd (l.getD k PO.m0) := by
  rw [PO.getD_at (by have := h.1; omega)]
  exact h.2.2.1 _ (List.getElem_mem _)

theorem order_may1 (m : PO.Mem) (w : World) (hm : MemBd m) :
    Calls Try.prog 90 #[.agg #[.int .i64 m.1, .int .i64 m.2.1, .int .i64 m.2.2.1, .int .i64 m.2.2.2]] w fun e w' => e = .returned (.bool (!PO.ok m)) ∧ Below w.heap.size w w' := by
  obtain ⟨i, c, h, r⟩ := m
  obtain ⟨_, b1, b2, b3⟩ := hm
  have K := fun W => account_Right c h r W b1 b2 b3
  show Calls Try.prog 90 #[.agg #[.int .i64 i, .int .i64 c, .int .i64 h, .int .i64 r]] w fun e w' => e = .returned (.bool (!PA.right c h r)) ∧ Below w.heap.size w w'
  generalize PA.right c h r = q at *
  replace K := Lib.hid K
  clear b1 b2 b3
  go_enter Try.func90, Try.ntmps90
  go_wp2_with fail
  refine (K.out _).mono ?_
  rintro e w1 ⟨rfl, h1⟩
  go_wp2_with fail
  exact bodyPost_ret (v := .bool (!q)) (by simp [results, Try.results90, go_sem]) rfl ⟨rfl, (by repeat (first | exact Below.refl _ _ | assumption | refine bel_drew ?_ | refine bel_drewN ?_ _ | refine bel_alloc ?_ _ | refine bel_set ?_ (by first | (dsimp only; omega) | (simp; done) | (simp; omega)) _ | refine bel_trans ?_ (by assumption)))⟩

def IdxRel (w : World) (p : PO.Mem → Bool) (l : List PO.Mem) (n : Nat) (i : Value) (wr : World) : Prop :=
  ∃ k : Nat, k ≤ n ∧ i = .int .i64 k ∧ (∀ j, j < k → p (l.getD j PO.m0) = false) ∧ Below w.heap.size w wr

set_option maxHeartbeats 4000000 in
theorem mem_IndexFunc {A : Option Addr} {n : Nat} {l : List PO.Mem} (c g : Nat) (lb : Array Value) (p : PO.Mem → Bool) {w : World} (h : MemAt w A n l)
    (eg : ∀ args w, (callFunc g args).run Try.prog w = .ok (.enter g args) w)
    (hp : ∀ m W, Below w.heap.size w W → MemBd m → Calls Try.prog g (#[.agg #[.int .i64 m.1, .int .i64 m.2.1, .int .i64 m.2.2.1, .int .i64 m.2.2.2]] ++ lb) W fun e w' => e = .returned (.bool (p m)) ∧ Below W.heap.size W w') :
    Calls Try.prog 75 #[.slice A n c, .func (.func g) #[] lb] w fun e w' => e = .returned (.int .i64 (PO.idx p l)) ∧ Below w.heap.size w w' := by
  obtain ⟨R, hR⟩ : ∃ R, PO.idx p l = R := ⟨_, rfl⟩
  rw [hR]
  have HR := Lib.hid hR
  have HX := Lib.hid h.1
  have HN := h.2.1
  have HB := Lib.hid (fun k (hk : k < n) => h.bd hk)
  have HC := Lib.hid h.2.2.2
  have HP := Lib.hid hp
  have hcf : ∀ m w, (callFunc g (#[m] ++ lb)).run Try.prog w = .ok (.enter g (#[m] ++ lb)) w := fun m w => eg _ w
  clear hR h hp
  go_enter Try.func75, Try.ntmps75
  go_wp2_with fail
  go_loopw [8] (fun i wr => IdxRel w p l n i wr) (fun i _ => n - (intOf i).toNat)
  case atStart => exact ⟨0, Nat.zero_le _, rfl, fun j hj => absurd hj (by omega), Below.refl _ _⟩
  case round =>
    obtain ⟨k, hk, rfl, hnot, hbel⟩ := hrel
    have HNOT := Lib.hid hnot
    clear hnot
    have j1 : (0 : Int) ≤ (k : Int) := by omega
    by_cases hlt : (k : Int) < n
    · obtain ⟨b, off, rfl, hb, hcs⟩ := HC.out (by omega)
      obtain ⟨x0, x1, x2, x3⟩ := (hcs k (by omega)).keep hbel hb
      have bd := HB.out k (by omega)
      obtain ⟨m, hm⟩ : ∃ m, l.getD k PO.m0 = m := ⟨_, rfl⟩
      rw [hm] at x0 x1 x2 x3 bd
      have KP := Lib.hid (HP.out m wr hbel bd)
      have HM := Lib.hid hm
      clear hm hcs bd
      rcases hq : p m with _ | _
      · rw [hq] at KP
        have HE : Hid (∀ j, j < k + 1 → p (l.getD j PO.m0) = false) := Lib.hid (fun j hj => by
          rcases Nat.lt_or_ge j k with h1 | h1
          · exact HNOT.out j h1
          · obtain rfl : j = k := by omega
            rw [HM.out]; exact hq)
        clear hq
        go_wp2_with fail
        refine KP.out.mono ?_
        rintro e w1 ⟨rfl, h1⟩
        go_wp2_with fail
        go_roundw
        case rel => exact ⟨k + 1, by omega, by go_num, HE.out, (by repeat (first | exact Below.refl _ _ | assumption | refine bel_drew ?_ | refine bel_drewN ?_ _ | refine bel_alloc ?_ _ | refine bel_set ?_ (by first | (dsimp only; omega) | (simp; done) | (simp; omega)) _ | refine bel_trans ?_ (by assumption)))⟩
        case measure => simp [intOf]; omega
      · rw [hq] at KP
        have HE : Hid ((k : Int) = R) := Lib.hid ((PO.idx_at (by rw [HX.out]; omega) HNOT.out (by rw [HM.out]; exact hq)).symm.trans HR.out)
        clear hq
        go_wp2_with fail
        refine KP.out.mono ?_
        rintro e w1 ⟨rfl, h1⟩
        go_wp2_with fail
        go_ret
        exact ⟨ret_int HE.out, (by repeat (first | exact Below.refl _ _ | assumption | refine bel_drew ?_ | refine bel_drewN ?_ _ | refine bel_alloc ?_ _ | refine bel_set ?_ (by first | (dsimp only; omega) | (simp; done) | (simp; omega)) _ | refine bel_trans ?_ (by assumption)))⟩
    · have HE : Hid ((-1 : Int) = R) := Lib.hid ((PO.idx_none (fun j hj => HNOT.out j (by rw [HX.out] at hj; omega))).symm.trans HR.out)
      go_wp2_with fail
      go_ret
      exact ⟨ret_int HE.out, (by repeat (first | exact Below.refl _ _ | assumption | refine bel_drew ?_ | refine bel_drewN ?_ _ | refine bel_alloc ?_ _ | refine bel_set ?_ (by first | (dsimp only; omega) | (simp; done) | (simp; omega)) _ | refine bel_trans ?_ (by assumption)))⟩

theorem mem_ContainsFunc {A : Option Addr} {n : Nat} {l : List PO.Mem} (c g : Nat) (lb : Array Value) (p : PO.Mem → Bool) {w : World} (h : MemAt w A n l)
    (eg : ∀ args w, (callFunc g args).run Try.prog w = .ok (.enter g args) w)
    (hp : ∀ m W, Below w.heap.size w W → MemBd m → Calls Try.prog g (#[.agg #[.int .i64 m.1, .int .i64 m.2.1, .int .i64 m.2.2.1, .int .i64 m.2.2.2]] ++ lb) W fun e w' => e = .returned (.bool (p m)) ∧ Below W.heap.size W w') :
    Calls Try.prog 92 #[.slice A n c, .func (.func g) #[] lb] w fun e w' => e = .returned (.bool (l.any p)) ∧ Below w.heap.size w w' := by
  have K := mem_IndexFunc c g lb p h eg hp
  rw [← PO.idx_ge]
  generalize PO.idx p l = x at *
  replace K := Lib.hid K
  clear h hp
  go_enter Try.func92, Try.ntmps92
  go_wp2_with fail
  refine K.out.mono ?_
  rintro e w1 ⟨rfl, h1⟩
  go_wp2_with fail
  exact bodyPost_ret (v := .bool (decide (0 ≤ x))) (by simp [results, Try.results92, go_sem]) rfl ⟨rfl, (by repeat (first | exact Below.refl _ _ | assumption | refine bel_drew ?_ | refine bel_drewN ?_ _ | refine bel_alloc ?_ _ | refine bel_set ?_ (by first | (dsimp only; omega) | (simp; done) | (simp; omega)) _ | refine bel_trans ?_ (by assumption)))⟩

theorem order_may {A : Option Addr} {n : Nat} {l : List PO.Mem} (c : Nat) (free : Int) {w : World} (h : MemAt w A n l) :
    Calls Try.prog 68 #[.int .i64 free, .slice A n c] w fun e w' => e = .returned (.bool (PO.may free l)) ∧ Below w.heap.size w w' := by
  have K : Hid (∀ W, Below w.heap.size w W → Calls Try.prog 92 #[.slice A n c, .func (.func 90) #[] #[]] W fun e w' => e = .returned (.bool (!(l.all PO.ok))) ∧ Below W.heap.size W w') := Lib.hid (fun W hW => by
    rw [← PO.any_not]
    exact mem_ContainsFunc c _ #[] _ (h.keep hW) (fun args w => by simp [go_sem]) (fun m W' _ bm => order_may1 m W' bm))
  have e : PO.may free l = (decide (0 ≤ free) && decide (free ≤ 1048576) && l.all PO.ok) := rfl
  generalize PO.may free l = R at *
  generalize l.all PO.ok = q at *
  clear h
  by_cases h0 : 0 ≤ free
  · by_cases h1 : free ≤ 1048576
    · rw [decide_eq_true h0, decide_eq_true h1, Bool.true_and, Bool.true_and] at e
      subst e
      have g0 : decide ((0 : Int) ≤ free) = true := decide_eq_true h0
      have g1 : decide (free ≤ 1048576) = true := decide_eq_true h1
      go_enter Try.func68, Try.ntmps68
      go_wp2_with fail
      refine (K.out _ (by exact (by repeat (first | exact Below.refl _ _ | assumption | refine bel_drew ?_ | refine bel_drewN ?_ _ | refine bel_alloc ?_ _ | refine bel_set ?_ (by first | (dsimp only; omega) | (simp; done) | (simp; omega)) _ | refine bel_trans ?_ (by assumption))))).mono ?_
      rintro e w1 ⟨rfl, h2⟩
      go_wp2_with fail
      exact bodyPost_ret (v := .bool R) (by simp [results, Try.results68, go_sem]) rfl ⟨rfl, (by repeat (first | exact Below.refl _ _ | assumption | refine bel_drew ?_ | refine bel_drewN ?_ _ | refine bel_alloc ?_ _ | refine bel_set ?_ (by first | (dsimp only; omega) | (simp; done) | (simp; omega)) _ | refine bel_trans ?_ (by assumption)))⟩
    · rw [decide_eq_false h1, Bool.and_false, Bool.false_and] at e
      subst e
      have g0 : decide ((0 : Int) ≤ free) = true := decide_eq_true h0
      have g1 : decide (free ≤ 1048576) = false := decide_eq_false h1
      go_enter Try.func68, Try.ntmps68
      go_wp2_with fail
      exact bodyPost_ret (v := .bool false) (by simp [results, Try.results68, go_sem]) rfl ⟨rfl, (by repeat (first | exact Below.refl _ _ | assumption | refine bel_drew ?_ | refine bel_drewN ?_ _ | refine bel_alloc ?_ _ | refine bel_set ?_ (by first | (dsimp only; omega) | (simp; done) | (simp; omega)) _ | refine bel_trans ?_ (by assumption)))⟩
  · rw [decide_eq_false h0, Bool.false_and, Bool.false_and] at e
    subst e
    have g0 : decide ((0 : Int) ≤ free) = false := decide_eq_false h0
    go_enter Try.func68, Try.ntmps68
    go_wp2_with fail
    exact bodyPost_ret (v := .bool false) (by simp [results, Try.results68, go_sem]) rfl ⟨rfl, (by repeat (first | exact Below.refl _ _ | assumption | refine bel_drew ?_ | refine bel_drewN ?_ _ | refine bel_alloc ?_ _ | refine bel_set ?_ (by first | (dsimp only; omega) | (simp; done) | (simp; omega)) _ | refine bel_trans ?_ (by assumption)))⟩

set_option maxHeartbeats 4000000 in
theorem ref28_May {A : Option Addr} {n : Nat} {l : List PO.Mem} (c : Nat) (free : Int) {w : World} (h : MemAt w A n l) :
    Calls Try.prog 51 #[.int .i64 free, .slice A n c] w fun e w' => e = .returned (.bool (PO.may free l)) ∧ Below w.heap.size w w' := by
  have e : PO.may free l = (decide (0 ≤ free) && decide (free ≤ 1048576) && l.all PO.ok) := rfl
  generalize PO.may free l = R at *
  have HR := Lib.hid e
  have HX := Lib.hid h.1
  have HN := h.2.1
  have HB := Lib.hid (fun k (hk : k < n) => h.bd hk)
  have HC := Lib.hid h.2.2.2
  clear e h
  go_enter Try.func51, Try.ntmps51
  go_wp2_with fail
  go_loopw [5] (fun i wr => IdxRel w (fun m => !PO.ok m) l n i wr) (fun i _ => n - (intOf i).toNat)
  case atStart => exact ⟨0, Nat.zero_le _, rfl, fun j hj => absurd hj (by omega), Below.refl _ _⟩
  case round =>
    obtain ⟨k, hk, rfl, hnot, hbel⟩ := hrel
    have HNOT := Lib.hid hnot
    clear hnot
    have j1 : (0 : Int) ≤ (k : Int) := by omega
    by_cases hlt : (k : Int) < n
    · obtain ⟨b, off, rfl, hb, hcs⟩ := HC.out (by omega)
      obtain ⟨x0, x1, x2, x3⟩ := (hcs k (by omega)).keep hbel hb
      have bd := HB.out k (by omega)
      obtain ⟨m, hm⟩ : ∃ m, l.getD k PO.m0 = m := ⟨_, rfl⟩
      rw [hm] at x0 x1 x2 x3 bd
      have KP := fun W => ref26_Right m.2.1 m.2.2.1 m.2.2.2 W bd.2.1 bd.2.2.1 bd.2.2.2
      have HM := Lib.hid hm
      clear hm hcs bd
      rcases hq : PO.ok m with _ | _
      · have HE : Hid (false = R) := Lib.hid (by rw [HR.out, PO.all_not (k := k) (by rw [HX.out]; omega) (by rw [HM.out]; exact hq)]; simp)
        rw [show PA.right m.2.1 m.2.2.1 m.2.2.2 = false from hq] at KP
        replace KP := Lib.hid KP
        clear hq
        go_wp2_with fail
        refine (KP.out _).mono ?_
        rintro e w1 ⟨rfl, h1⟩
        go_wp2_with fail
        go_ret
        exact ⟨ret_bool HE.out, (by repeat (first | exact Below.refl _ _ | assumption | refine bel_drew ?_ | refine bel_drewN ?_ _ | refine bel_alloc ?_ _ | refine bel_set ?_ (by first | (dsimp only; omega) | (simp; done) | (simp; omega)) _ | refine bel_trans ?_ (by assumption)))⟩
      · have HE : Hid (∀ j, j < k + 1 → (!PO.ok (l.getD j PO.m0)) = false) := Lib.hid (fun j hj => by
          rcases Nat.lt_or_ge j k with h1 | h1
          · exact HNOT.out j h1
          · obtain rfl : j = k := by omega
            rw [HM.out, hq]; rfl)
        rw [show PA.right m.2.1 m.2.2.1 m.2.2.2 = true from hq] at KP
        replace KP := Lib.hid KP
        clear hq
        go_wp2_with fail
        refine (KP.out _).mono ?_
        rintro e w1 ⟨rfl, h1⟩
        go_wp2_with fail
        go_roundw
        case rel => exact ⟨k + 1, by omega, by go_num, HE.out, (by repeat (first | exact Below.refl _ _ | assumption | refine bel_drew ?_ | refine bel_drewN ?_ _ | refine bel_alloc ?_ _ | refine bel_set ?_ (by first | (dsimp only; omega) | (simp; done) | (simp; omega)) _ | refine bel_trans ?_ (by assumption)))⟩
        case measure => simp [intOf]; omega
    · have ha : l.all PO.ok = true := PO.all_of (fun j hj => by have := HNOT.out j (by rw [HX.out] at hj; omega); simpa using this)
      have HE : Hid ((decide (0 ≤ free) && decide (free ≤ 1048576)) = R) := Lib.hid (by rw [HR.out, ha, Bool.and_true])
      clear ha
      by_cases h0 : 0 ≤ free
      · have g0 : decide ((0 : Int) ≤ free) = true := decide_eq_true h0
        rw [g0, Bool.true_and] at HE
        go_wp2_with fail
        go_ret
        exact ⟨ret_bool HE.out, (by repeat (first | exact Below.refl _ _ | assumption | refine bel_drew ?_ | refine bel_drewN ?_ _ | refine bel_alloc ?_ _ | refine bel_set ?_ (by first | (dsimp only; omega) | (simp; done) | (simp; omega)) _ | refine bel_trans ?_ (by assumption)))⟩
      · have g0 : decide ((0 : Int) ≤ free) = false := decide_eq_false h0
        rw [g0, Bool.false_and] at HE
        go_wp2_with fail
        go_ret
        exact ⟨ret_bool HE.out, (by repeat (first | exact Below.refl _ _ | assumption | refine bel_drew ?_ | refine bel_drewN ?_ _ | refine bel_alloc ?_ _ | refine bel_set ?_ (by first | (dsimp only; omega) | (simp; done) | (simp; omega)) _ | refine bel_trans ?_ (by assumption)))⟩
end Go.Proofs.Ythmjbfocpdiikaa
