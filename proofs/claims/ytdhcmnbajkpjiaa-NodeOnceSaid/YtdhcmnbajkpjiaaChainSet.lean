/-
  Chain: a store into one of its cells turns its state at one place.
-/
import Derived.Test.YtdhcmnbajkpjiaaChainA
import Derived.Test.YtdhcmnbajkpjiaaOff
namespace Go.Proofs.Ytdhcmnbajkpjiaa
open Go.RowKit
set_option linter.unusedVariables false

theorem ChainAt.set_n0 {w : World} {C Nb Lb n l : Nat} {S : CS} (h : ChainAt w C Nb Lb n l S) (x : Nat) (v : Int) (hx : x < n) : ChainAt (w.setCell ⟨Nb, x * 3, none⟩ (.int .i64 v)) C Nb Lb n l { S with bk := upd S.bk x v } where
  c0 := by rw [World.cell?_setCell_other _ _ _ _ (by have := h.aCN; have := h.aCL; first | (simp; done) | (simp; omega) | (simp [*]; done))]; exact h.c0
  c1 := by rw [World.cell?_setCell_other _ _ _ _ (by have := h.aCN; have := h.aCL; first | (simp; done) | (simp; omega) | (simp [*]; done))]; exact h.c1
  n0 := fun i hi => by
    rw [cell_set (h.n0 i hi)]
    by_cases e : i = x
    · subst e; rw [if_pos rfl]; simp [upd]
    · rw [if_neg (by first | (simp; done) | (simp; omega))]; simp [upd, e]
  n1 := fun i hi => by
    rw [cell_set (h.n1 i hi), if_neg (by have := h.aNL; first | (simp; done) | (simp; omega) | (simp [*]; done))]
  n2 := fun i hi => by
    rw [cell_set (h.n2 i hi), if_neg (by have := h.aNL; first | (simp; done) | (simp; omega) | (simp [*]; done))]
  l0 := fun i hi => by
    rw [cell_set (h.l0 i hi), if_neg (by have := h.aNL; first | (simp; done) | (simp; omega) | (simp [*]; done))]
  l1 := fun i hi => by
    rw [cell_set (h.l1 i hi), if_neg (by have := h.aNL; first | (simp; done) | (simp; omega) | (simp [*]; done))]
  l2 := fun i hi => by
    rw [cell_set (h.l2 i hi), if_neg (by have := h.aNL; first | (simp; done) | (simp; omega) | (simp [*]; done))]
  fzn := fun j => by rw [World.frozen?_setCell]; exact h.fzn j
  fzl := fun j => by rw [World.frozen?_setCell]; exact h.fzl j
  hC := by simpa [World.setCell] using h.hC
  hN := by simpa [World.setCell] using h.hN
  hL := by simpa [World.setCell] using h.hL
  aCN := h.aCN
  aCL := h.aCL
  aNL := h.aNL
  bn := h.bn
  bl := h.bl
theorem ChainAt.set_n1 {w : World} {C Nb Lb n l : Nat} {S : CS} (h : ChainAt w C Nb Lb n l S) (x : Nat) (v : Int) (hx : x < n) : ChainAt (w.setCell ⟨Nb, x * 3 + 1, none⟩ (.int .i64 v)) C Nb Lb n l { S with nx := upd S.nx x v } where
  c0 := by rw [World.cell?_setCell_other _ _ _ _ (by have := h.aCN; have := h.aCL; first | (simp; done) | (simp; omega) | (simp [*]; done))]; exact h.c0
  c1 := by rw [World.cell?_setCell_other _ _ _ _ (by have := h.aCN; have := h.aCL; first | (simp; done) | (simp; omega) | (simp [*]; done))]; exact h.c1
  n0 := fun i hi => by
    rw [cell_set (h.n0 i hi), if_neg (by have := h.aNL; first | (simp; done) | (simp; omega) | (simp [*]; done))]
  n1 := fun i hi => by
    rw [cell_set (h.n1 i hi)]
    by_cases e : i = x
    · subst e; rw [if_pos rfl]; simp [upd]
    · rw [if_neg (by first | (simp; done) | (simp; omega))]; simp [upd, e]
  n2 := fun i hi => by
    rw [cell_set (h.n2 i hi), if_neg (by have := h.aNL; first | (simp; done) | (simp; omega) | (simp [*]; done))]
  l0 := fun i hi => by
    rw [cell_set (h.l0 i hi), if_neg (by have := h.aNL; first | (simp; done) | (simp; omega) | (simp [*]; done))]
  l1 := fun i hi => by
    rw [cell_set (h.l1 i hi), if_neg (by have := h.aNL; first | (simp; done) | (simp; omega) | (simp [*]; done))]
  l2 := fun i hi => by
    rw [cell_set (h.l2 i hi), if_neg (by have := h.aNL; first | (simp; done) | (simp; omega) | (simp [*]; done))]
  fzn := fun j => by rw [World.frozen?_setCell]; exact h.fzn j
  fzl := fun j => by rw [World.frozen?_setCell]; exact h.fzl j
  hC := by simpa [World.setCell] using h.hC
  hN := by simpa [World.setCell] using h.hN
  hL := by simpa [World.setCell] using h.hL
  aCN := h.aCN
  aCL := h.aCL
  aNL := h.aNL
  bn := h.bn
  bl := h.bl
theorem ChainAt.set_n2 {w : World} {C Nb Lb n l : Nat} {S : CS} (h : ChainAt w C Nb Lb n l S) (x : Nat) (v : Int) (hx : x < n) : ChainAt (w.setCell ⟨Nb, x * 3 + 2, none⟩ (.int .i64 v)) C Nb Lb n l { S with ls := upd S.ls x v } where
  c0 := by rw [World.cell?_setCell_other _ _ _ _ (by have := h.aCN; have := h.aCL; first | (simp; done) | (simp; omega) | (simp [*]; done))]; exact h.c0
  c1 := by rw [World.cell?_setCell_other _ _ _ _ (by have := h.aCN; have := h.aCL; first | (simp; done) | (simp; omega) | (simp [*]; done))]; exact h.c1
  n0 := fun i hi => by
    rw [cell_set (h.n0 i hi), if_neg (by have := h.aNL; first | (simp; done) | (simp; omega) | (simp [*]; done))]
  n1 := fun i hi => by
    rw [cell_set (h.n1 i hi), if_neg (by have := h.aNL; first | (simp; done) | (simp; omega) | (simp [*]; done))]
  n2 := fun i hi => by
    rw [cell_set (h.n2 i hi)]
    by_cases e : i = x
    · subst e; rw [if_pos rfl]; simp [upd]
    · rw [if_neg (by first | (simp; done) | (simp; omega))]; simp [upd, e]
  l0 := fun i hi => by
    rw [cell_set (h.l0 i hi), if_neg (by have := h.aNL; first | (simp; done) | (simp; omega) | (simp [*]; done))]
  l1 := fun i hi => by
    rw [cell_set (h.l1 i hi), if_neg (by have := h.aNL; first | (simp; done) | (simp; omega) | (simp [*]; done))]
  l2 := fun i hi => by
    rw [cell_set (h.l2 i hi), if_neg (by have := h.aNL; first | (simp; done) | (simp; omega) | (simp [*]; done))]
  fzn := fun j => by rw [World.frozen?_setCell]; exact h.fzn j
  fzl := fun j => by rw [World.frozen?_setCell]; exact h.fzl j
  hC := by simpa [World.setCell] using h.hC
  hN := by simpa [World.setCell] using h.hN
  hL := by simpa [World.setCell] using h.hL
  aCN := h.aCN
  aCL := h.aCL
  aNL := h.aNL
  bn := h.bn
  bl := h.bl
theorem ChainAt.set_l0 {w : World} {C Nb Lb n l : Nat} {S : CS} (h : ChainAt w C Nb Lb n l S) (x : Nat) (v : Int) (hx : x < l) : ChainAt (w.setCell ⟨Lb, x * 3, none⟩ (.int .i64 v)) C Nb Lb n l { S with fb := upd S.fb x v } where
  c0 := by rw [World.cell?_setCell_other _ _ _ _ (by have := h.aCN; have := h.aCL; first | (simp; done) | (simp; omega) | (simp [*]; done))]; exact h.c0
  c1 := by rw [World.cell?_setCell_other _ _ _ _ (by have := h.aCN; have := h.aCL; first | (simp; done) | (simp; omega) | (simp [*]; done))]; exact h.c1
  n0 := fun i hi => by
    rw [cell_set (h.n0 i hi), if_neg (by have := h.aNL; first | (simp; done) | (simp; omega) | (simp [*]; done))]
  n1 := fun i hi => by
    rw [cell_set (h.n1 i hi), if_neg (by have := h.aNL; first | (simp; done) | (simp; omega) | (simp [*]; done))]
  n2 := fun i hi => by
    rw [cell_set (h.n2 i hi), if_neg (by have := h.aNL; first | (simp; done) | (simp; omega) | (simp [*]; done))]
  l0 := fun i hi => by
    rw [cell_set (h.l0 i hi)]
    by_cases e : i = x
    · subst e; rw [if_pos rfl]; simp [upd]
    · rw [if_neg (by first | (simp; done) | (simp; omega))]; simp [upd, e]
  l1 := fun i hi => by
    rw [cell_set (h.l1 i hi), if_neg (by have := h.aNL; first | (simp; done) | (simp; omega) | (simp [*]; done))]
  l2 := fun i hi => by
    rw [cell_set (h.l2 i hi), if_neg (by have := h.aNL; first | (simp; done) | (simp; omega) | (simp [*]; done))]
  fzn := fun j => by rw [World.frozen?_setCell]; exact h.fzn j
  fzl := fun j => by rw [World.frozen?_setCell]; exact h.fzl j
  hC := by simpa [World.setCell] using h.hC
  hN := by simpa [World.setCell] using h.hN
  hL := by simpa [World.setCell] using h.hL
  aCN := h.aCN
  aCL := h.aCL
  aNL := h.aNL
  bn := h.bn
  bl := h.bl
theorem ChainAt.set_l1 {w : World} {C Nb Lb n l : Nat} {S : CS} (h : ChainAt w C Nb Lb n l S) (x : Nat) (v : Int) (hx : x < l) : ChainAt (w.setCell ⟨Lb, x * 3 + 1, none⟩ (.int .i64 v)) C Nb Lb n l { S with fn := upd S.fn x v } where
  c0 := by rw [World.cell?_setCell_other _ _ _ _ (by have := h.aCN; have := h.aCL; first | (simp; done) | (simp; omega) | (simp [*]; done))]; exact h.c0
  c1 := by rw [World.cell?_setCell_other _ _ _ _ (by have := h.aCN; have := h.aCL; first | (simp; done) | (simp; omega) | (simp [*]; done))]; exact h.c1
  n0 := fun i hi => by
    rw [cell_set (h.n0 i hi), if_neg (by have := h.aNL; first | (simp; done) | (simp; omega) | (simp [*]; done))]
  n1 := fun i hi => by
    rw [cell_set (h.n1 i hi), if_neg (by have := h.aNL; first | (simp; done) | (simp; omega) | (simp [*]; done))]
  n2 := fun i hi => by
    rw [cell_set (h.n2 i hi), if_neg (by have := h.aNL; first | (simp; done) | (simp; omega) | (simp [*]; done))]
  l0 := fun i hi => by
    rw [cell_set (h.l0 i hi), if_neg (by have := h.aNL; first | (simp; done) | (simp; omega) | (simp [*]; done))]
  l1 := fun i hi => by
    rw [cell_set (h.l1 i hi)]
    by_cases e : i = x
    · subst e; rw [if_pos rfl]; simp [upd]
    · rw [if_neg (by first | (simp; done) | (simp; omega))]; simp [upd, e]
  l2 := fun i hi => by
    rw [cell_set (h.l2 i hi), if_neg (by have := h.aNL; first | (simp; done) | (simp; omega) | (simp [*]; done))]
  fzn := fun j => by rw [World.frozen?_setCell]; exact h.fzn j
  fzl := fun j => by rw [World.frozen?_setCell]; exact h.fzl j
  hC := by simpa [World.setCell] using h.hC
  hN := by simpa [World.setCell] using h.hN
  hL := by simpa [World.setCell] using h.hL
  aCN := h.aCN
  aCL := h.aCL
  aNL := h.aNL
  bn := h.bn
  bl := h.bl
theorem ChainAt.set_l2 {w : World} {C Nb Lb n l : Nat} {S : CS} (h : ChainAt w C Nb Lb n l S) (x : Nat) (v : Int) (hx : x < l) : ChainAt (w.setCell ⟨Lb, x * 3 + 2, none⟩ (.int .i64 v)) C Nb Lb n l { S with fl := upd S.fl x v } where
  c0 := by rw [World.cell?_setCell_other _ _ _ _ (by have := h.aCN; have := h.aCL; first | (simp; done) | (simp; omega) | (simp [*]; done))]; exact h.c0
  c1 := by rw [World.cell?_setCell_other _ _ _ _ (by have := h.aCN; have := h.aCL; first | (simp; done) | (simp; omega) | (simp [*]; done))]; exact h.c1
  n0 := fun i hi => by
    rw [cell_set (h.n0 i hi), if_neg (by have := h.aNL; first | (simp; done) | (simp; omega) | (simp [*]; done))]
  n1 := fun i hi => by
    rw [cell_set (h.n1 i hi), if_neg (by have := h.aNL; first | (simp; done) | (simp; omega) | (simp [*]; done))]
  n2 := fun i hi => by
    rw [cell_set (h.n2 i hi), if_neg (by have := h.aNL; first | (simp; done) | (simp; omega) | (simp [*]; done))]
  l0 := fun i hi => by
    rw [cell_set (h.l0 i hi), if_neg (by have := h.aNL; first | (simp; done) | (simp; omega) | (simp [*]; done))]
  l1 := fun i hi => by
    rw [cell_set (h.l1 i hi), if_neg (by have := h.aNL; first | (simp; done) | (simp; omega) | (simp [*]; done))]
  l2 := fun i hi => by
    rw [cell_set (h.l2 i hi)]
    by_cases e : i = x
    · subst e; rw [if_pos rfl]; simp [upd]
    · rw [if_neg (by first | (simp; done) | (simp; omega))]; simp [upd, e]
  fzn := fun j => by rw [World.frozen?_setCell]; exact h.fzn j
  fzl := fun j => by rw [World.frozen?_setCell]; exact h.fzl j
  hC := by simpa [World.setCell] using h.hC
  hN := by simpa [World.setCell] using h.hN
  hL := by simpa [World.setCell] using h.hL
  aCN := h.aCN
  aCL := h.aCL
  aNL := h.aNL
  bn := h.bn
  bl := h.bl
end Go.Proofs.Ytdhcmnbajkpjiaa
