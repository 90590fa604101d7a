/-
  Chain: what its memory holds, and the contracts of what only reads.
-/
import Derived.Test.YtdhcmnbajkpjiaaPlainChain
import Derived.Test.YtdhcmnbajkpjiaaBase3
import Derived.Test.YtdhcmnbajkpjiaaProg
namespace Go.Proofs.Ytdhcmnbajkpjiaa
open Go.RowKit
set_option linter.unusedVariables false

/-- A chain in memory: its block, its nodes' block, its lists' block. -/
structure ChainAt (w : World) (C Nb Lb n l : Nat) (S : CS) : Prop where
  c0 : w.cell? ⟨C, 0, none⟩ = some (.slice (some ⟨Nb, 0, none⟩) n n)
  c1 : w.cell? ⟨C, 1, none⟩ = some (.slice (some ⟨Lb, 0, none⟩) l l)
  n0 : ∀ i, i < n → w.cell? ⟨Nb, i * 3, none⟩ = some (.int .i64 (S.bk i))
  n1 : ∀ i, i < n → w.cell? ⟨Nb, i * 3 + 1, none⟩ = some (.int .i64 (S.nx i))
  n2 : ∀ i, i < n → w.cell? ⟨Nb, i * 3 + 2, none⟩ = some (.int .i64 (S.ls i))
  l0 : ∀ i, i < l → w.cell? ⟨Lb, i * 3, none⟩ = some (.int .i64 (S.fb i))
  l1 : ∀ i, i < l → w.cell? ⟨Lb, i * 3 + 1, none⟩ = some (.int .i64 (S.fn i))
  l2 : ∀ i, i < l → w.cell? ⟨Lb, i * 3 + 2, none⟩ = some (.int .i64 (S.fl i))
  fzn : ∀ j, w.frozen? ⟨Nb, j, none⟩ = false
  fzl : ∀ j, w.frozen? ⟨Lb, j, none⟩ = false
  hC : C < w.heap.size
  hN : Nb < w.heap.size
  hL : Lb < w.heap.size
  aCN : C ≠ Nb
  aCL : C ≠ Lb
  aNL : Nb ≠ Lb
  bn : n ≤ 1048576
  bl : l ≤ 1048576

theorem ChainAt.keep {w w' : World} {C Nb Lb n l : Nat} {S : CS} (h : ChainAt w C Nb Lb n l S) (hb : Below w.heap.size w w') : ChainAt w' C Nb Lb n l S where
  c0 := (hb.cell h.hC).trans h.c0
  c1 := (hb.cell h.hC).trans h.c1
  n0 := fun i hi => (hb.cell h.hN).trans (h.n0 i hi)
  n1 := fun i hi => (hb.cell h.hN).trans (h.n1 i hi)
  n2 := fun i hi => (hb.cell h.hN).trans (h.n2 i hi)
  l0 := fun i hi => (hb.cell h.hL).trans (h.l0 i hi)
  l1 := fun i hi => (hb.cell h.hL).trans (h.l1 i hi)
  l2 := fun i hi => (hb.cell h.hL).trans (h.l2 i hi)
  fzn := fun j => (hb.frozen h.hN).trans (h.fzn j)
  fzl := fun j => (hb.frozen h.hL).trans (h.fzl j)
  hC := by have := hb.size; have := h.hC; omega
  hN := by have := hb.size; have := h.hN; omega
  hL := by have := hb.size; have := h.hL; omega
  aCN := h.aCN
  aCL := h.aCL
  aNL := h.aNL
  bn := h.bn
  bl := h.bl

theorem chain_is_yes (C Nb n : Nat) (x : Nat) (w : World) (c0 : w.cell? ⟨C, 0, none⟩ = some (.slice (some ⟨Nb, 0, none⟩) n n)) (hx : x < n) (hn : n ≤ 1048576) :
    Calls Try.prog 102 #[.pointer (some ⟨C, 0, none⟩), .int .i64 x] w fun e w' => e = .returned (.bool true) ∧ w = w' := by
  have h0 : (0 : Int) ≤ (x : Int) := by omega
  have h1 : (x : Int) < (n : Int) := by omega
  go_enter Try.func102, Try.ntmps102
  go_wp2_with fail
  go_ret
  exact ⟨ret_bool (by simp), rfl⟩

theorem chain_is_no (C Nb n : Nat) (x : Int) (w : World) (c0 : w.cell? ⟨C, 0, none⟩ = some (.slice (some ⟨Nb, 0, none⟩) n n)) (hx : x < 0 ∨ (n : Int) ≤ x) (hn : n ≤ 1048576) :
    Calls Try.prog 102 #[.pointer (some ⟨C, 0, none⟩), .int .i64 x] w fun e w' => e = .returned (.bool false) ∧ w = w' := by
  rcases hx with hx | hx
  · go_enter Try.func102, Try.ntmps102
    go_wp2_with fail
    go_ret
    exact ⟨rfl, rfl⟩
  · have h0 : 0 ≤ x := by omega
    go_enter Try.func102, Try.ntmps102
    go_wp2_with fail
    go_ret
    exact ⟨ret_bool (by simp; omega), rfl⟩

theorem chain_is_nil (x : Int) (w : World) :
    Calls Try.prog 102 #[.pointer none, .int .i64 x] w fun e w' => e = .returned (.bool false) ∧ w = w' := by
  go_enter Try.func102, Try.ntmps102
  go_wp2_with fail
  go_ret
  exact ⟨rfl, rfl⟩
theorem chain_has_yes (C Lb n : Nat) (x : Nat) (w : World) (c1 : w.cell? ⟨C, 1, none⟩ = some (.slice (some ⟨Lb, 0, none⟩) n n)) (hx : x < n) (hn : n ≤ 1048576) :
    Calls Try.prog 101 #[.pointer (some ⟨C, 0, none⟩), .int .i64 x] w fun e w' => e = .returned (.bool true) ∧ w = w' := by
  have h0 : (0 : Int) ≤ (x : Int) := by omega
  have h1 : (x : Int) < (n : Int) := by omega
  go_enter Try.func101, Try.ntmps101
  go_wp2_with fail
  go_ret
  exact ⟨ret_bool (by simp), rfl⟩

theorem chain_has_no (C Lb n : Nat) (x : Int) (w : World) (c1 : w.cell? ⟨C, 1, none⟩ = some (.slice (some ⟨Lb, 0, none⟩) n n)) (hx : x < 0 ∨ (n : Int) ≤ x) (hn : n ≤ 1048576) :
    Calls Try.prog 101 #[.pointer (some ⟨C, 0, none⟩), .int .i64 x] w fun e w' => e = .returned (.bool false) ∧ w = w' := by
  rcases hx with hx | hx
  · go_enter Try.func101, Try.ntmps101
    go_wp2_with fail
    go_ret
    exact ⟨rfl, rfl⟩
  · have h0 : 0 ≤ x := by omega
    go_enter Try.func101, Try.ntmps101
    go_wp2_with fail
    go_ret
    exact ⟨ret_bool (by simp; omega), rfl⟩

theorem chain_has_nil (x : Int) (w : World) :
    Calls Try.prog 101 #[.pointer none, .int .i64 x] w fun e w' => e = .returned (.bool false) ∧ w = w' := by
  go_enter Try.func101, Try.ntmps101
  go_wp2_with fail
  go_ret
  exact ⟨rfl, rfl⟩
end Go.Proofs.Ytdhcmnbajkpjiaa
