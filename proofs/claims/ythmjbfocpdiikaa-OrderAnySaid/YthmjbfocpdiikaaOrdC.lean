/-
  SortStableFunc over at most 20 members of the call's own; Clone; order.Room.
-/
import Derived.Test.YthmjbfocpdiikaaOrdB
import Derived.Test.YthmjbfocpdiikaaMemL
import Derived.Laws.Cover3
namespace Go.Proofs.Ythmjbfocpdiikaa
open Go.RowKit
set_option linter.unusedVariables false
set_option linter.unusedSimpArgs false
attribute [local go_sem] drewN_alloc drewN_setCell

def Sorts (Post : World → Prop) (e : Ending) (w' : World) : Prop := e = .returned (.tuple #[]) ∧ Post w'
set_option maxRecDepth 100000 in
theorem sort_none (A : Option Addr) (n c : Nat) (w : World) :
    Calls Try.prog 101 #[.slice A n c, .int .i64 20, .int .i64 20, .func (.func 71) #[] #[]] w fun e w' => Sorts (fun w' => w = w') e w' := by
  go_enter Try.func101, Try.ntmps101
  go_wp2_with fail
  go_loopw [8] (fun i wr => i = .int .i64 21 ∧ wr = w) (fun i _ => 0)
  case atStart => exact ⟨rfl, rfl⟩
  case round =>
    obtain ⟨rfl, rfl⟩ := hrel
    go_wp2_with fail
    exact bodyPost_ret (v := .tuple #[]) (by simp [results, Try.results101, go_sem]) rfl ⟨rfl, rfl⟩
set_option maxRecDepth 100000 in
theorem sort_zero (A : Option Addr) (n c : Nat) (w : World) :
    Calls Try.prog 101 #[.slice A n c, .int .i64 0, .int .i64 0, .func (.func 71) #[] #[]] w fun e w' => Sorts (fun w' => w = w') e w' := by
  go_enter Try.func101, Try.ntmps101
  go_wp2_with fail
  go_loopw [8] (fun i wr => i = .int .i64 1 ∧ wr = w) (fun i _ => 0)
  case atStart => exact ⟨rfl, rfl⟩
  case round =>
    obtain ⟨rfl, rfl⟩ := hrel
    go_wp2_with fail
    exact bodyPost_ret (v := .tuple #[]) (by simp [results, Try.results101, go_sem]) rfl ⟨rfl, rfl⟩

def StbRel (Post : World → Prop) (w : World) (n : Nat) (a b : Value) (wr : World) : Prop :=
  (a = .int .i64 0 ∧ b = .int .i64 20 ∧ wr = w) ∨ (n = 20 ∧ a = .int .i64 20 ∧ b = .int .i64 40 ∧ Post wr)
set_option maxRecDepth 100000 in
set_option maxHeartbeats 4000000 in
theorem sort_stable {A : Option Addr} {n : Nat} (c : Nat) {w : World} (Post : World → Prop) (hn : n ≤ 20)
    (K : Calls Try.prog 101 #[.slice A n c, .int .i64 0, .int .i64 (n : Int), .func (.func 71) #[] #[]] w fun e w' => Sorts Post e w') :
    Calls Try.prog 93 #[.slice A n c, .int .i64 (n : Int), .func (.func 71) #[] #[]] w fun e w' => Sorts Post e w' := by
  replace K := Lib.hid K
  go_enter Try.func93, Try.ntmps93
  go_wp2_with fail
  go_loopw [7, 8] (fun a b wr => StbRel Post w n a b wr) (fun _ b _ => 40 - (intOf b).toNat)
  case atStart => exact .inl ⟨rfl, rfl, rfl⟩
  case round =>
    rcases hrel with ⟨rfl, rfl, rfl⟩ | ⟨rfl, rfl, rfl, hpost⟩
    · by_cases h20 : (20 : Int) ≤ (n : Int)
      · obtain rfl : n = 20 := by omega
        have ez : ((20 : Nat) : Int) = 20 := rfl
        rw [ez] at K
        clear h20
        simp only [ez]
        go_wp2_with fail
        refine K.out.mono ?_
        rintro e w1 ⟨rfl, h1⟩
        replace h1 := Lib.hid h1
        go_wp2_with fail
        go_roundw
        case rel => exact .inr ⟨rfl, rfl, rfl, h1.out⟩
        case measure => simp [intOf] <;> omega
      · have d1 : decide ((20 : Int) ≤ (n : Int)) = false := decide_eq_false h20
        have d2 : decide ((20 : Int) < (n : Int)) = false := decide_eq_false (by omega)
        have d3 : ¬ (20 : Int) < (n : Int) := by omega
        go_wp2_with fail
        refine K.out.mono ?_
        rintro e w1 ⟨rfl, h1⟩
        replace h1 := Lib.hid h1
        go_wp2_with fail
        go_loopw [6] (fun b wr => b = .int .i64 20 ∧ wr = w1) (fun _ _ => 0)
        case atStart => exact ⟨rfl, rfl⟩
        case round =>
          obtain ⟨rfl, rfl⟩ := hrel
          go_wp2_with fail
          exact bodyPost_ret (v := .tuple #[]) (by simp [results, Try.results93, go_sem]) rfl ⟨rfl, h1.out⟩
    · have hp := Lib.hid hpost
      clear hpost
      have ez : ((20 : Nat) : Int) = 20 := rfl
      simp only [ez]
      go_wp2_with fail
      refine (sort_none _ _ _ _).mono ?_
      rintro e w1 ⟨rfl, rfl⟩
      go_wp2_with fail
      go_loopw [6] (fun b wr' => b = .int .i64 20 ∧ wr' = wr) (fun _ _ => 0)
      case atStart => exact ⟨rfl, rfl⟩
      case round =>
        obtain ⟨rfl, rfl⟩ := hrel
        go_wp2_with fail
        exact bodyPost_ret (v := .tuple #[]) (by simp [results, Try.results93, go_sem]) rfl ⟨rfl, hp.out⟩
theorem sort_SSF {A : Option Addr} {n : Nat} (c : Nat) {w : World} (Post : World → Prop) (hn : n ≤ 20)
    (K : Calls Try.prog 101 #[.slice A n c, .int .i64 0, .int .i64 (n : Int), .func (.func 71) #[] #[]] w fun e w' => Sorts Post e w') :
    Calls Try.prog 70 #[.slice A n c, .func (.func 71) #[] #[]] w fun e w' => Sorts Post e w' := by
  have K2 := Lib.hid (sort_stable c Post hn K)
  clear K
  go_enter Try.func70, Try.ntmps70
  go_wp2_with fail
  refine K2.out.mono ?_
  rintro e w1 ⟨rfl, h1⟩
  replace h1 := Lib.hid h1
  go_wp2_with fail
  exact bodyPost_ret (v := .tuple #[]) (by simp [results, Try.results70, go_sem]) rfl ⟨rfl, h1.out⟩

/-- A slice of one's own, sorted: what it reads as. -/
def SortedOut (w : World) (A : Option Addr) (l : List PO.Mem) (w' : World) : Prop :=
  ∃ p : List PO.Mem, p.Perm l ∧ PO.Sorted p ∧ MemAt w' A l.length p ∧ Below w.heap.size w w'
theorem sort_own {w W : World} {v : Value} {l : List PO.Mem} (hb : ∀ m ∈ l, MemBd m) (ho : OwnM w.heap.size W v l) (hB : Below w.heap.size w W) (hn : l.length ≤ 20) :
    ∃ A c, v = .slice A l.length c ∧ Calls Try.prog 70 #[.slice A l.length c, .func (.func 71) #[] #[]] W fun e w' => Sorts (SortedOut w A l) e w' := by
  by_cases h0 : 0 < l.length
  · obtain ⟨g, c, rfl, hg, hm, hf⟩ := OwnM.block ho hb h0
    obtain ⟨b, off, e, hlt, hcs⟩ := hm.2.2.2 h0
    obtain ⟨rfl, rfl⟩ : g = b ∧ 0 = off := by simpa using e
    refine ⟨_, c, rfl, sort_SSF c (SortedOut w (some ⟨g, 0, none⟩) l) hn ?_⟩
    have hr : RowM W g l.length l := ⟨rfl, hb, hf, hlt, fun i hi => by have := hcs i hi; rwa [Nat.zero_add] at this⟩
    refine (sort_ins c hr (by omega)).mono ?_
    rintro e w1 ⟨rfl, p, hp, hs, hr1, hbel⟩
    refine ⟨rfl, p, hp, fun x y h1 h2 => hs x y h1 (by rw [← hp.length_eq]; exact h2), ⟨hp.length_eq, by omega, hr1.2.1, fun _ => ⟨g, 0, rfl, hr1.2.2.2.1, fun i hi => by rw [Nat.zero_add]; exact hr1.2.2.2.2 i hi⟩⟩, hB.trans (hbel.mono hg)⟩
  · obtain ⟨A, c, rfl, hm⟩ := OwnM.mem ho hb
    obtain rfl := List.eq_nil_of_length_eq_zero (show l.length = 0 by omega)
    refine ⟨A, c, rfl, sort_SSF c (SortedOut w A []) (by simp) ?_⟩
    refine (sort_zero A 0 c W).mono ?_
    rintro e w1 ⟨rfl, rfl⟩
    exact ⟨rfl, [], List.Perm.refl _, fun x y _ h => absurd h (by simp), MemAt.nil, hB⟩

def GivesM1 (w : World) (l : List PO.Mem) (e : Ending) (w' : World) : Prop := ∃ v, e = .returned v ∧ OwnM w.heap.size w' v l ∧ Below w.heap.size w w'
set_option maxRecDepth 100000 in
theorem mem_Clone_nil (n c : Nat) (w : World) : Calls Try.prog 69 #[.slice none n c] w (GivesM1 w []) := by
  have hnil : (binOp .eql 23 (.slice none n c) (.slice none 0 0)).run Try.prog w = .ok (.bool true) w := by simp only [binOp]; simp [run_equal_slice_nil w _ _ none n c Try.underlying23]
  have HG : GivesM1 w [] (.returned (.slice none 0 0)) w := ⟨_, rfl, ⟨by simp [cellsM], .inl ⟨rfl, rfl⟩⟩, Below.refl _ _⟩
  replace HG := Lib.hid HG
  go_enter Try.func69, Try.ntmps69
  go_wp2_with fail
  go_ret
  exact HG.out
set_option maxRecDepth 100000 in
set_option maxHeartbeats 1000000 in
theorem mem_Clone_some (x : Addr) (n c : Nat) (l : List PO.Mem) (w : World) (h : MemAt w (some x) n l) (hn : n ≤ 1048576) :
    Calls Try.prog 69 #[.slice (some x) n c] w (GivesM1 w l) := by
  have hnil : (binOp .eql 23 (.slice (some x) n c) (.slice none 0 0)).run Try.prog w = .ok (.bool false) w := by simp only [binOp]; simp [run_equal_slice_nil w _ _ (some x) n c Try.underlying23]
  have hsrc := srcM_of (h.keep (bel_alloc (Below.refl _ _) (.cells #[] 34)))
  have hown : OwnM w.heap.size (w.alloc (.cells #[] 34)) (.slice (some ⟨w.heap.size, 0, none⟩) 0 0) [] := own_emptyS 4 w _
  replace hsrc := Lib.hid hsrc
  replace hown := Lib.hid hown
  clear h
  go_enter Try.func69, Try.ntmps69
  go_wp2_with (at_builtin; refine app_listM rfl _ _ rfl w.heap.size _ [] rfl hown.out (some x) n c l rfl hsrc.out (by simpa using hn) (by simp) ?_; intro v' w' ho hb; replace ho := Lib.hid ho)
  have HG : GivesM1 w l (.returned v') w' := ⟨_, rfl, by simpa using ho.out, bel_trans' (bel_alloc (Below.refl _ _) _) hb (Nat.le_refl _)⟩
  replace HG := Lib.hid HG
  clear ho hb
  go_wp2_with fail
  go_ret
  exact HG.out
theorem mem_Clone {A : Option Addr} {n : Nat} {l : List PO.Mem} (c : Nat) {w : World} (h : MemAt w A n l) (hn : n ≤ 1048576) : Calls Try.prog 69 #[.slice A n c] w (GivesM1 w l) := by
  rcases A with _ | x
  · have h0 : n = 0 := by
      rcases Nat.eq_zero_or_pos n with h0 | h0
      · exact h0
      · obtain ⟨_, _, e, _⟩ := h.2.2.2 h0
        cases e
    obtain rfl := List.eq_nil_of_length_eq_zero (h.1.trans h0)
    exact mem_Clone_nil n c w
  · exact mem_Clone_some x n c l w h hn

def GivesRoom (w : World) (f : Int) (l : List PO.Mem) (e : Ending) (w' : World) : Prop := ∃ R, e = .returned (.int .i64 R) ∧ PO.IsRoom f l R ∧ Below w.heap.size w w'
end Go.Proofs.Ythmjbfocpdiikaa
