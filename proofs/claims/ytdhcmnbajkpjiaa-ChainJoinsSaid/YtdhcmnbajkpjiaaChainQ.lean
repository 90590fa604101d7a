/-
  Chain: the contract of Join.
-/
import Derived.Test.YtdhcmnbajkpjiaaRefE
import Derived.Deep.LoopGhost
namespace Go.Proofs.Ytdhcmnbajkpjiaa
open Go.RowKit
set_option linter.unusedVariables false
attribute [local go_sem] drewN_alloc drewN_setCell

theorem chain_Join_nil (i x : Int) (w : World) :
    Calls Try.prog 34 #[.pointer none, .int .i64 i, .int .i64 x] w fun e w' => e = .returned (.bool false) ∧ w = w' := by
  go_enter Try.func34, Try.ntmps34
  go_wp2_with fail
  refine (chain_has_nil i _).mono ?_
  rintro e w1 ⟨rfl, rfl⟩
  go_wp2_with fail
  go_ret
  exact ⟨rfl, rfl⟩

section
variable {w : World} {C Nb Lb n l : Nat} {R : Nat → List Nat}
theorem chain_Join_no (t f : Int) (h : ChainRows w C Nb Lb n l R) (hb : PC.joinB l t f = false) :
    Calls Try.prog 34 #[.pointer (some ⟨C, 0, none⟩), .int .i64 t, .int .i64 f] w fun e w' => e = .returned (.bool false) ∧ w = w' := by
  have c1 := chain_has t h
  have c2 := chain_has f h
  unfold PC.joinB at hb
  simp only [decide_eq_false_iff_not] at hb
  by_cases h1 : 0 ≤ t ∧ t < (l : Int)
  · rw [decide_eq_true h1] at c1
    by_cases h2 : 0 ≤ f ∧ f < (l : Int)
    · rw [decide_eq_true h2] at c2
      obtain rfl : t = f := by omega
      have u1 : (t == t) = true := by simp
      replace c1 := Lib.hid c1
      replace c2 := Lib.hid c2
      clear hb h h1 h2
      go_enter Try.func34, Try.ntmps34
      go_wp2_with fail
      refine c1.out.mono ?_
      rintro e w1 ⟨rfl, rfl⟩
      go_wp2_with fail
      refine c2.out.mono ?_
      rintro e w1 ⟨rfl, rfl⟩
      go_wp2_with fail
      go_ret
      exact ⟨rfl, rfl⟩
    · rw [decide_eq_false h2] at c2
      replace c1 := Lib.hid c1
      replace c2 := Lib.hid c2
      clear hb h h1 h2
      go_enter Try.func34, Try.ntmps34
      go_wp2_with fail
      refine c1.out.mono ?_
      rintro e w1 ⟨rfl, rfl⟩
      go_wp2_with fail
      refine c2.out.mono ?_
      rintro e w1 ⟨rfl, rfl⟩
      go_wp2_with fail
      go_ret
      exact ⟨rfl, rfl⟩
  · rw [decide_eq_false h1] at c1
    replace c1 := Lib.hid c1
    clear hb h h1 c2
    go_enter Try.func34, Try.ntmps34
    go_wp2_with fail
    refine c1.out.mono ?_
    rintro e w1 ⟨rfl, rfl⟩
    go_wp2_with fail
    go_ret
    exact ⟨rfl, rfl⟩
end

/-- What Join's callers know of it. -/
def JoinsTo (w : World) (C Nb Lb n l : Nat) (S : CS) (e : Ending) (w' : World) : Prop := e = .returned (.bool true) ∧ ChainAt w' C Nb Lb n l S ∧ Off Nb Lb w w'

theorem chain_Join_empty (C Nb Lb n l : Nat) (S : CS) (t f : Nat) (w : World) (h : ChainAt w C Nb Lb n l S) (ht : t < l) (hf : f < l) (hne : t ≠ f) (hl : S.fl f = 0) :
    Calls Try.prog 34 #[.pointer (some ⟨C, 0, none⟩), .int .i64 t, .int .i64 f] w (JoinsTo w C Nb Lb n l S) := by
  have c1 := fun W hc => chain_has_yes C Lb l t W hc ht h.bl
  have c2 := fun W hc => chain_has_yes C Lb l f W hc hf h.bl
  have C1 := Lib.hid c1
  have C2 := Lib.hid c2
  have H := Lib.hid h
  have k1 := h.c1
  have l2 := h.l2 f hf
  have l1 := h.l1 f hf
  have g0 : (0 : Int) ≤ (t : Int) := by omega
  have g1 : (t : Int) < (l : Int) := by omega
  have g2 : (0 : Int) ≤ (f : Int) := by omega
  have g3 : (f : Int) < (l : Int) := by omega
  have e1 : ((t : Int) == (f : Int)) = false := by simp; omega
  have e2 : (t == f) = false := by simpa using hne
  rw [hl] at l2
  clear c1 c2 h hl
  go_enter Try.func34, Try.ntmps34
  go_wp2_with fail
  refine (C1.out _ k1).mono ?_
  rintro e w1 ⟨rfl, rfl⟩
  go_wp2_with fail
  refine (C2.out _ k1).mono ?_
  rintro e w1 ⟨rfl, rfl⟩
  go_wp2_with fail
  go_quiet (fail)
  go_wp2_with fail
  go_ret
  exact ⟨rfl, H.out.drewN _, (Off.refl _ _ _).drewN _⟩

/-- What holds at the head of Join's loop; g: how many nodes are still to come. -/
def JoinRel (w : World) (C Nb Lb n l : Nat) (S : CS) (t : Nat) (r : List Nat) (g : Nat) (s9 : Value) (wr : World) : Prop :=
  ∃ k : Nat, k + g = r.length ∧ s9 = .int .i64 (PC.headD (r.drop k)) ∧ ChainAt wr C Nb Lb n l { S with ls := fun y => if y ∈ r.take k then (t : Int) else S.ls y } ∧ Off Nb Lb w wr
theorem ls_step {f : Nat → Int} {r : List Nat} {k x t : Nat} (hk : k < r.length) (hx : r[k] = x) : upd (fun y => if y ∈ r.take k then (t : Int) else f y) x t = fun y => if y ∈ r.take (k + 1) then (t : Int) else f y := by
  funext y
  rw [List.take_succ_eq_append_getElem hk, hx]
  unfold upd
  by_cases e : y = x
  · subst e; simp
  · by_cases e2 : y ∈ r.take k
    · simp [e, e2]
    · simp [e, e2]

set_option maxRecDepth 100000 in
set_option maxHeartbeats 4000000 in
theorem chain_Join_back (C Nb Lb n l : Nat) (S : CS) (t f hd la : Nat) (r : List Nat) (w : World) (h : ChainAt w C Nb Lb n l S) (ht : t < l) (hf : f < l) (hne : t ≠ f) (hr : 0 < r.length) (hrn : r.length ≤ 1048576)
    (hlt : ∀ k (hk : k < r.length), r[k] < n) (hnx : ∀ k (hk : k < r.length), S.nx r[k] = PC.headD (r.drop (k + 1))) (hfn : S.fn f = (hd : Int)) (hdr : PC.headD r = (hd : Int)) (hhd : hd < n) (hla : S.fb f = (la : Int)) (hfl : S.fl f = (r.length : Nat)) (hft : 0 ≤ S.fl t ∧ S.fl t ≤ 1048576) (y : Nat) (hy : S.fb t = (y : Int)) (hyn : y < n) :
    Calls Try.prog 34 #[.pointer (some ⟨C, 0, none⟩), .int .i64 t, .int .i64 f] w (JoinsTo w C Nb Lb n l (S.join t f r)) := by
  have c1 := fun W hc => chain_has_yes C Lb l t W hc ht h.bl
  have c2 := fun W hc => chain_has_yes C Lb l f W hc hf h.bl
  have C1 := Lib.hid c1
  have C2 := Lib.hid c2
  have H := Lib.hid h
  have k1 := h.c1
  have l2 := h.l2 f hf
  have l1 := h.l1 f hf
  have g0 : (0 : Int) ≤ (t : Int) := by omega
  have g1 : (t : Int) < (l : Int) := by omega
  have g2 : (0 : Int) ≤ (f : Int) := by omega
  have g3 : (f : Int) < (l : Int) := by omega
  have e1 : ((t : Int) == (f : Int)) = false := by simp; omega
  have e2 : (t == f) = false := by simpa using hne
  rw [hfl] at l2
  rw [hfn] at l1
  have e3 : (((r.length : Nat) : Int) == 0) = false := beq_eq_false_iff_ne.2 (by omega)
  have e4 : (r.length == 0) = false := beq_eq_false_iff_ne.2 (by omega)
  have HDR := Lib.hid hdr
  have HLT := Lib.hid hlt
  have HNX := Lib.hid hnx
  have HFN := Lib.hid hfn
  have HLA := Lib.hid hla
  have HFL := Lib.hid hfl
  have HY := Lib.hid hy
  have q0 : (0 : Int) ≤ (hd : Int) := by omega
  have q1 : (hd : Int) < (n : Int) := by omega
  obtain ⟨ft, hft'⟩ : ∃ ft, S.fl t = ft := ⟨_, rfl⟩
  have HFT := Lib.hid hft'
  rw [hft'] at hft
  clear c1 c2 h hlt hnx hfn hla hfl hdr hy hft'
  go_enter Try.func34, Try.ntmps34
  go_wp2_with fail
  refine (C1.out _ k1).mono ?_
  rintro e w1 ⟨rfl, rfl⟩
  go_wp2_with fail
  refine (C2.out _ k1).mono ?_
  rintro e w1 ⟨rfl, rfl⟩
  go_wp2_with fail
  go_quiet (fail)
  go_wp2_with fail
  clear k1 l1 l2
  go_loopg [9] r.length (fun g s9 wr => JoinRel w C Nb Lb n l S t r g s9 wr)
  case atStart =>
    refine ⟨0, by omega, by rw [List.drop_zero, HDR.out], ?_, (Off.refl _ _ _).drewN _⟩
    simpa using H.out.drewN _
  case round =>
    obtain ⟨k, hk, rfl, hc, ho⟩ := hrel
    have HC := Lib.hid hc
    have HO := Lib.hid ho
    have HK := Lib.hid hk
    clear hc ho hk C1 C2 H
    by_cases hg : gk = 0
    · have hd0 : r.drop k = [] := List.drop_eq_nil_of_le (by have := HK.out; omega)
      have htk : r.take k = r := List.take_of_length_le (by have := HK.out; omega)
      rw [hd0, PC.headD_nil]
      rw [htk] at HC
      clear hd0 htk hg
      obtain ⟨W, hW⟩ : ∃ W, W = wr := ⟨_, rfl⟩
      subst hW
      have hc0 := HC.out
      have aCN := hc0.aCN
      have aCL := hc0.aCL
      have aNL := hc0.aNL
      have HC0 := HC
      have HO0 := HO
      have d1 : ¬ t * 3 = f * 3 := by omega
      have d2 : ¬ t * 3 + 1 = f * 3 := by omega
      have d3 : ¬ t * 3 + 1 = f * 3 + 1 := by omega
      have d4 : ¬ t * 3 = f * 3 + 1 := by omega
      have d5 : ¬ t = f := hne
      have d6 : ¬ f * 3 = t * 3 + 1 := by omega
      have d7 : ¬ f * 3 = t * 3 := by omega
      clear HC HO hc0
      have q2 : (0 : Int) ≤ (y : Int) := by omega
      have q3 : (y : Int) < (n : Int) := by omega
      have k0 := HC0.out.c0
      have k1 := HC0.out.c1
      have f1 := HC0.out.fzn
      have f2 := HC0.out.fzl
      have cb := HC0.out.l0 t ht
      dsimp only at cb
      rw [HY.out] at cb
      have cbf := HC0.out.l0 f hf
      dsimp only at cbf
      rw [HLA.out] at cbf
      obtain ⟨v7, cnt⟩ : ∃ v, W.cell? ⟨Lb, t * 3 + 1, none⟩ = some (.int .i64 v) := ⟨_, HC0.out.l1 t ht⟩
      have cnf := HC0.out.l1 f hf
      dsimp only at cnf
      rw [HFN.out] at cnf
      have clt := HC0.out.l2 t ht
      dsimp only at clt
      rw [HFT.out] at clt
      have clf := HC0.out.l2 f hf
      dsimp only at clf
      rw [HFL.out] at clf
      obtain ⟨v11, chd⟩ : ∃ v, W.cell? ⟨Nb, hd * 3, none⟩ = some (.int .i64 v) := ⟨_, HC0.out.n0 hd hhd⟩
      obtain ⟨v12, cy⟩ : ∃ v, W.cell? ⟨Nb, y * 3 + 1, none⟩ = some (.int .i64 v) := ⟨_, HC0.out.n1 y hyn⟩
      go_wp2_with fail
      go_region
      refine post_name ?_
      intro W1 hW1
      have hc1 : ChainAt W1 C Nb Lb n l { bk := upd (S.bk) hd (y : Int), nx := S.nx, ls := (fun y => if y ∈ r then (t : Int) else S.ls y), fb := S.fb, fn := S.fn, fl := S.fl } := by
        rw [hW1]
        repeat (with_reducible refine ChainAt.drew ?_)
        exact (HC0.out.set_n0 hd (y : Int) hhd)
      have ho1 : Off Nb Lb w W1 := by
        rw [hW1]
        repeat (with_reducible refine Off.drew ?_)
        exact (HO0.out.set (p := ⟨Nb, hd * 3, none⟩) (Or.inl rfl) (.int .i64 (y : Int)))
      have HC1 := Lib.hid hc1
      have HO1 := Lib.hid ho1
      clear hW1 hc1 ho1 k0 k1 f1 f2 cb cbf cnt cnf clt clf chd cy
      have k0 := HC1.out.c0
      have k1 := HC1.out.c1
      have f1 := HC1.out.fzn
      have f2 := HC1.out.fzl
      have cb := HC1.out.l0 t ht
      dsimp only at cb
      rw [HY.out] at cb
      have cbf := HC1.out.l0 f hf
      dsimp only at cbf
      rw [HLA.out] at cbf
      obtain ⟨v7, cnt⟩ : ∃ v, W1.cell? ⟨Lb, t * 3 + 1, none⟩ = some (.int .i64 v) := ⟨_, HC1.out.l1 t ht⟩
      have cnf := HC1.out.l1 f hf
      dsimp only at cnf
      rw [HFN.out] at cnf
      have clt := HC1.out.l2 t ht
      dsimp only at clt
      rw [HFT.out] at clt
      have clf := HC1.out.l2 f hf
      dsimp only at clf
      rw [HFL.out] at clf
      obtain ⟨v11, chd⟩ : ∃ v, W1.cell? ⟨Nb, hd * 3, none⟩ = some (.int .i64 v) := ⟨_, HC1.out.n0 hd hhd⟩
      obtain ⟨v12, cy⟩ : ∃ v, W1.cell? ⟨Nb, y * 3 + 1, none⟩ = some (.int .i64 v) := ⟨_, HC1.out.n1 y hyn⟩
      go_wp2_with fail
      go_region
      refine post_name ?_
      intro W2 hW2
      have hc2 : ChainAt W2 C Nb Lb n l { bk := upd (S.bk) hd (y : Int), nx := upd (S.nx) y (hd : Int), ls := (fun y => if y ∈ r then (t : Int) else S.ls y), fb := S.fb, fn := S.fn, fl := S.fl } := by
        rw [hW2]
        repeat (with_reducible refine ChainAt.drew ?_)
        exact (HC1.out.set_n1 y (hd : Int) hyn)
      have ho2 : Off Nb Lb w W2 := by
        rw [hW2]
        repeat (with_reducible refine Off.drew ?_)
        exact (HO1.out.set (p := ⟨Nb, y * 3 + 1, none⟩) (Or.inl rfl) (.int .i64 (hd : Int)))
      have HC2 := Lib.hid hc2
      have HO2 := Lib.hid ho2
      clear hW2 hc2 ho2 k0 k1 f1 f2 cb cbf cnt cnf clt clf chd cy
      have k0 := HC2.out.c0
      have k1 := HC2.out.c1
      have f1 := HC2.out.fzn
      have f2 := HC2.out.fzl
      have cb := HC2.out.l0 t ht
      dsimp only at cb
      rw [HY.out] at cb
      have cbf := HC2.out.l0 f hf
      dsimp only at cbf
      rw [HLA.out] at cbf
      obtain ⟨v7, cnt⟩ : ∃ v, W2.cell? ⟨Lb, t * 3 + 1, none⟩ = some (.int .i64 v) := ⟨_, HC2.out.l1 t ht⟩
      have cnf := HC2.out.l1 f hf
      dsimp only at cnf
      rw [HFN.out] at cnf
      have clt := HC2.out.l2 t ht
      dsimp only at clt
      rw [HFT.out] at clt
      have clf := HC2.out.l2 f hf
      dsimp only at clf
      rw [HFL.out] at clf
      obtain ⟨v11, chd⟩ : ∃ v, W2.cell? ⟨Nb, hd * 3, none⟩ = some (.int .i64 v) := ⟨_, HC2.out.n0 hd hhd⟩
      obtain ⟨v12, cy⟩ : ∃ v, W2.cell? ⟨Nb, y * 3 + 1, none⟩ = some (.int .i64 v) := ⟨_, HC2.out.n1 y hyn⟩
      go_wp2_with fail
      refine region_name ?_
      intro W3 hW3
      have hc3 : ChainAt W3 C Nb Lb n l { bk := upd (S.bk) hd (y : Int), nx := upd (S.nx) y (hd : Int), ls := (fun y => if y ∈ r then (t : Int) else S.ls y), fb := upd (S.fb) t (la : Int), fn := S.fn, fl := S.fl } := by
        rw [hW3]
        repeat (with_reducible refine ChainAt.drew ?_)
        exact (HC2.out.set_l0 t (la : Int) ht)
      have ho3 : Off Nb Lb w W3 := by
        rw [hW3]
        repeat (with_reducible refine Off.drew ?_)
        exact (HO2.out.set (p := ⟨Lb, t * 3, none⟩) (Or.inr rfl) (.int .i64 (la : Int)))
      have HC3 := Lib.hid hc3
      have HO3 := Lib.hid ho3
      clear hW3 hc3 ho3 k0 k1 f1 f2 cb cbf cnt cnf clt clf chd cy
      have k0 := HC3.out.c0
      have k1 := HC3.out.c1
      have f1 := HC3.out.fzn
      have f2 := HC3.out.fzl
      obtain ⟨v5, cb⟩ : ∃ v, W3.cell? ⟨Lb, t * 3, none⟩ = some (.int .i64 v) := ⟨_, HC3.out.l0 t ht⟩
      obtain ⟨v6, cbf⟩ : ∃ v, W3.cell? ⟨Lb, f * 3, none⟩ = some (.int .i64 v) := ⟨_, HC3.out.l0 f hf⟩
      obtain ⟨v7, cnt⟩ : ∃ v, W3.cell? ⟨Lb, t * 3 + 1, none⟩ = some (.int .i64 v) := ⟨_, HC3.out.l1 t ht⟩
      have cnf := HC3.out.l1 f hf
      dsimp only at cnf
      rw [HFN.out] at cnf
      have clt := HC3.out.l2 t ht
      dsimp only at clt
      rw [HFT.out] at clt
      have clf := HC3.out.l2 f hf
      dsimp only at clf
      rw [HFL.out] at clf
      obtain ⟨v11, chd⟩ : ∃ v, W3.cell? ⟨Nb, hd * 3, none⟩ = some (.int .i64 v) := ⟨_, HC3.out.n0 hd hhd⟩
      obtain ⟨v12, cy⟩ : ∃ v, W3.cell? ⟨Nb, y * 3 + 1, none⟩ = some (.int .i64 v) := ⟨_, HC3.out.n1 y hyn⟩
      go_region
      refine post_name ?_
      intro W4 hW4
      have hc4 : ChainAt W4 C Nb Lb n l { bk := upd (S.bk) hd (y : Int), nx := upd (S.nx) y (hd : Int), ls := (fun y => if y ∈ r then (t : Int) else S.ls y), fb := upd (S.fb) t (la : Int), fn := S.fn, fl := upd (S.fl) t (ft + (r.length : Nat)) } := by
        rw [hW4]
        repeat (with_reducible refine ChainAt.drew ?_)
        exact (HC3.out.set_l2 t (ft + (r.length : Nat)) ht)
      have ho4 : Off Nb Lb w W4 := by
        rw [hW4]
        repeat (with_reducible refine Off.drew ?_)
        exact (HO3.out.set (p := ⟨Lb, t * 3 + 2, none⟩) (Or.inr rfl) (.int .i64 (ft + (r.length : Nat))))
      have HC4 := Lib.hid hc4
      have HO4 := Lib.hid ho4
      clear hW4 hc4 ho4 k0 k1 f1 f2 cb cbf cnt cnf clt clf chd cy
      have k0 := HC4.out.c0
      have k1 := HC4.out.c1
      have f1 := HC4.out.fzn
      have f2 := HC4.out.fzl
      obtain ⟨v5, cb⟩ : ∃ v, W4.cell? ⟨Lb, t * 3, none⟩ = some (.int .i64 v) := ⟨_, HC4.out.l0 t ht⟩
      obtain ⟨v6, cbf⟩ : ∃ v, W4.cell? ⟨Lb, f * 3, none⟩ = some (.int .i64 v) := ⟨_, HC4.out.l0 f hf⟩
      obtain ⟨v7, cnt⟩ : ∃ v, W4.cell? ⟨Lb, t * 3 + 1, none⟩ = some (.int .i64 v) := ⟨_, HC4.out.l1 t ht⟩
      have cnf := HC4.out.l1 f hf
      dsimp only at cnf
      rw [HFN.out] at cnf
      obtain ⟨v9, clt⟩ : ∃ v, W4.cell? ⟨Lb, t * 3 + 2, none⟩ = some (.int .i64 v) := ⟨_, HC4.out.l2 t ht⟩
      obtain ⟨v10, clf⟩ : ∃ v, W4.cell? ⟨Lb, f * 3 + 2, none⟩ = some (.int .i64 v) := ⟨_, HC4.out.l2 f hf⟩
      obtain ⟨v11, chd⟩ : ∃ v, W4.cell? ⟨Nb, hd * 3, none⟩ = some (.int .i64 v) := ⟨_, HC4.out.n0 hd hhd⟩
      obtain ⟨v12, cy⟩ : ∃ v, W4.cell? ⟨Nb, y * 3 + 1, none⟩ = some (.int .i64 v) := ⟨_, HC4.out.n1 y hyn⟩
      go_wp2_with fail
      go_ret
      refine ⟨rfl, ?_, (((HO4.out.set (p := ⟨Lb, f * 3, none⟩) (Or.inr rfl) (.int .i64 (-1))).set (p := ⟨Lb, f * 3 + 1, none⟩) (Or.inr rfl) (.int .i64 (-1))).set (p := ⟨Lb, f * 3 + 2, none⟩) (Or.inr rfl) (.int .i64 0))⟩
      have e : S.join t f r = { bk := upd (S.bk) hd (y : Int), nx := upd (S.nx) y (hd : Int), ls := (fun y => if y ∈ r then (t : Int) else S.ls y), fb := upd (upd (S.fb) t (la : Int)) f (-1), fn := upd (S.fn) f (-1), fl := upd (upd (S.fl) t (ft + (r.length : Nat))) f 0 } := by
        unfold CS.join
        rw [HFN.out, HY.out, HLA.out, HFT.out, HFL.out]
        simp
      rw [e]
      exact (((HC4.out.set_l0 f (-1) hf).set_l1 f (-1) hf).set_l2 f 0 hf)
    · have hkl : k < r.length := by have := HK.out; omega
      have hdr := List.drop_eq_getElem_cons hkl
      have hxn := HLT.out k hkl
      have hnx := HNX.out k hkl
      obtain ⟨x, hx⟩ : ∃ x, r[k] = x := ⟨_, rfl⟩
      have hls := ls_step (f := S.ls) (t := t) hkl hx
      rw [hx] at hdr hxn hnx
      rw [hdr, PC.headD_cons]
      have k0 := HC.out.c0
      have x1 := HC.out.n1 x hxn
      have x2 := HC.out.n2 x hxn
      have f1 := HC.out.fzn
      have aCN := HC.out.aCN
      dsimp only at x1
      rw [hnx] at x1
      obtain ⟨v2, x2⟩ : ∃ v, wr.cell? ⟨Nb, x * 3 + 2, none⟩ = some (.int .i64 v) := ⟨_, x2⟩
      obtain ⟨nxt, hnxt⟩ : ∃ v, PC.headD (r.drop (k + 1)) = v := ⟨_, rfl⟩
      rw [hnxt] at x1
      have HLS := Lib.hid hls
      have HNT := Lib.hid hnxt
      have HKL := Lib.hid hkl
      have HG := Lib.hid hg
      have p0 : (0 : Int) ≤ (x : Int) := by omega
      have p1 : (x : Int) < (n : Int) := by omega
      clear hls hnxt hkl hg hdr hnx hx
      go_wp2_with fail
      go_roundg (gk - 1)
      case measure => have := HG.out; omega
      case rel =>
        refine ⟨k + 1, by have := HK.out; have := HG.out; omega, by rw [HNT.out], ?_, HO.out.set (p := ⟨Nb, x * 3 + 2, none⟩) (Or.inl rfl) (.int .i64 t)⟩
        have := HC.out.set_n2 x t hxn
        dsimp only at this
        rwa [HLS.out] at this

set_option maxRecDepth 100000 in
set_option maxHeartbeats 4000000 in
theorem chain_Join_first (C Nb Lb n l : Nat) (S : CS) (t f hd la : Nat) (r : List Nat) (w : World) (h : ChainAt w C Nb Lb n l S) (ht : t < l) (hf : f < l) (hne : t ≠ f) (hr : 0 < r.length) (hrn : r.length ≤ 1048576)
    (hlt : ∀ k (hk : k < r.length), r[k] < n) (hnx : ∀ k (hk : k < r.length), S.nx r[k] = PC.headD (r.drop (k + 1))) (hfn : S.fn f = (hd : Int)) (hdr : PC.headD r = (hd : Int)) (hhd : hd < n) (hla : S.fb f = (la : Int)) (hfl : S.fl f = (r.length : Nat)) (hft : 0 ≤ S.fl t ∧ S.fl t ≤ 1048576) (hy : S.fb t = -1) :
    Calls Try.prog 34 #[.pointer (some ⟨C, 0, none⟩), .int .i64 t, .int .i64 f] w (JoinsTo w C Nb Lb n l (S.join t f r)) := by
  have c1 := fun W hc => chain_has_yes C Lb l t W hc ht h.bl
  have c2 := fun W hc => chain_has_yes C Lb l f W hc hf h.bl
  have C1 := Lib.hid c1
  have C2 := Lib.hid c2
  have H := Lib.hid h
  have k1 := h.c1
  have l2 := h.l2 f hf
  have l1 := h.l1 f hf
  have g0 : (0 : Int) ≤ (t : Int) := by omega
  have g1 : (t : Int) < (l : Int) := by omega
  have g2 : (0 : Int) ≤ (f : Int) := by omega
  have g3 : (f : Int) < (l : Int) := by omega
  have e1 : ((t : Int) == (f : Int)) = false := by simp; omega
  have e2 : (t == f) = false := by simpa using hne
  rw [hfl] at l2
  rw [hfn] at l1
  have e3 : (((r.length : Nat) : Int) == 0) = false := beq_eq_false_iff_ne.2 (by omega)
  have e4 : (r.length == 0) = false := beq_eq_false_iff_ne.2 (by omega)
  have HDR := Lib.hid hdr
  have HLT := Lib.hid hlt
  have HNX := Lib.hid hnx
  have HFN := Lib.hid hfn
  have HLA := Lib.hid hla
  have HFL := Lib.hid hfl
  have HY := Lib.hid hy
  have q0 : (0 : Int) ≤ (hd : Int) := by omega
  have q1 : (hd : Int) < (n : Int) := by omega
  obtain ⟨ft, hft'⟩ : ∃ ft, S.fl t = ft := ⟨_, rfl⟩
  have HFT := Lib.hid hft'
  rw [hft'] at hft
  clear c1 c2 h hlt hnx hfn hla hfl hdr hy hft'
  go_enter Try.func34, Try.ntmps34
  go_wp2_with fail
  refine (C1.out _ k1).mono ?_
  rintro e w1 ⟨rfl, rfl⟩
  go_wp2_with fail
  refine (C2.out _ k1).mono ?_
  rintro e w1 ⟨rfl, rfl⟩
  go_wp2_with fail
  go_quiet (fail)
  go_wp2_with fail
  clear k1 l1 l2
  go_loopg [9] r.length (fun g s9 wr => JoinRel w C Nb Lb n l S t r g s9 wr)
  case atStart =>
    refine ⟨0, by omega, by rw [List.drop_zero, HDR.out], ?_, (Off.refl _ _ _).drewN _⟩
    simpa using H.out.drewN _
  case round =>
    obtain ⟨k, hk, rfl, hc, ho⟩ := hrel
    have HC := Lib.hid hc
    have HO := Lib.hid ho
    have HK := Lib.hid hk
    clear hc ho hk C1 C2 H
    by_cases hg : gk = 0
    · have hd0 : r.drop k = [] := List.drop_eq_nil_of_le (by have := HK.out; omega)
      have htk : r.take k = r := List.take_of_length_le (by have := HK.out; omega)
      rw [hd0, PC.headD_nil]
      rw [htk] at HC
      clear hd0 htk hg
      obtain ⟨W, hW⟩ : ∃ W, W = wr := ⟨_, rfl⟩
      subst hW
      have hc0 := HC.out
      have aCN := hc0.aCN
      have aCL := hc0.aCL
      have aNL := hc0.aNL
      have HC0 := HC
      have HO0 := HO
      have d1 : ¬ t * 3 = f * 3 := by omega
      have d2 : ¬ t * 3 + 1 = f * 3 := by omega
      have d3 : ¬ t * 3 + 1 = f * 3 + 1 := by omega
      have d4 : ¬ t * 3 = f * 3 + 1 := by omega
      have d5 : ¬ t = f := hne
      have d6 : ¬ f * 3 = t * 3 + 1 := by omega
      have d7 : ¬ f * 3 = t * 3 := by omega
      clear HC HO hc0
      have k0 := HC0.out.c0
      have k1 := HC0.out.c1
      have f1 := HC0.out.fzn
      have f2 := HC0.out.fzl
      have cb := HC0.out.l0 t ht
      dsimp only at cb
      rw [HY.out] at cb
      have cbf := HC0.out.l0 f hf
      dsimp only at cbf
      rw [HLA.out] at cbf
      obtain ⟨v7, cnt⟩ : ∃ v, W.cell? ⟨Lb, t * 3 + 1, none⟩ = some (.int .i64 v) := ⟨_, HC0.out.l1 t ht⟩
      have cnf := HC0.out.l1 f hf
      dsimp only at cnf
      rw [HFN.out] at cnf
      have clt := HC0.out.l2 t ht
      dsimp only at clt
      rw [HFT.out] at clt
      have clf := HC0.out.l2 f hf
      dsimp only at clf
      rw [HFL.out] at clf
      obtain ⟨v11, chd⟩ : ∃ v, W.cell? ⟨Nb, hd * 3, none⟩ = some (.int .i64 v) := ⟨_, HC0.out.n0 hd hhd⟩
      go_wp2_with fail
      go_region
      refine post_name ?_
      intro W1 hW1
      have hc1 : ChainAt W1 C Nb Lb n l { bk := upd (S.bk) hd (-1), nx := S.nx, ls := (fun y => if y ∈ r then (t : Int) else S.ls y), fb := S.fb, fn := S.fn, fl := S.fl } := by
        rw [hW1]
        repeat (with_reducible refine ChainAt.drew ?_)
        exact (HC0.out.set_n0 hd (-1) hhd)
      have ho1 : Off Nb Lb w W1 := by
        rw [hW1]
        repeat (with_reducible refine Off.drew ?_)
        exact (HO0.out.set (p := ⟨Nb, hd * 3, none⟩) (Or.inl rfl) (.int .i64 (-1)))
      have HC1 := Lib.hid hc1
      have HO1 := Lib.hid ho1
      clear hW1 hc1 ho1 k0 k1 f1 f2 cb cbf cnt cnf clt clf chd
      have k0 := HC1.out.c0
      have k1 := HC1.out.c1
      have f1 := HC1.out.fzn
      have f2 := HC1.out.fzl
      have cb := HC1.out.l0 t ht
      dsimp only at cb
      rw [HY.out] at cb
      have cbf := HC1.out.l0 f hf
      dsimp only at cbf
      rw [HLA.out] at cbf
      obtain ⟨v7, cnt⟩ : ∃ v, W1.cell? ⟨Lb, t * 3 + 1, none⟩ = some (.int .i64 v) := ⟨_, HC1.out.l1 t ht⟩
      have cnf := HC1.out.l1 f hf
      dsimp only at cnf
      rw [HFN.out] at cnf
      have clt := HC1.out.l2 t ht
      dsimp only at clt
      rw [HFT.out] at clt
      have clf := HC1.out.l2 f hf
      dsimp only at clf
      rw [HFL.out] at clf
      obtain ⟨v11, chd⟩ : ∃ v, W1.cell? ⟨Nb, hd * 3, none⟩ = some (.int .i64 v) := ⟨_, HC1.out.n0 hd hhd⟩
      go_wp2_with fail
      refine region_name ?_
      intro W2 hW2
      have hc2 : ChainAt W2 C Nb Lb n l { bk := upd (S.bk) hd (-1), nx := S.nx, ls := (fun y => if y ∈ r then (t : Int) else S.ls y), fb := upd (S.fb) t (la : Int), fn := upd (S.fn) t (hd : Int), fl := S.fl } := by
        rw [hW2]
        repeat (with_reducible refine ChainAt.drew ?_)
        exact ((HC1.out.set_l1 t (hd : Int) ht).set_l0 t (la : Int) ht)
      have ho2 : Off Nb Lb w W2 := by
        rw [hW2]
        repeat (with_reducible refine Off.drew ?_)
        exact ((HO1.out.set (p := ⟨Lb, t * 3 + 1, none⟩) (Or.inr rfl) (.int .i64 (hd : Int))).set (p := ⟨Lb, t * 3, none⟩) (Or.inr rfl) (.int .i64 (la : Int)))
      have HC2 := Lib.hid hc2
      have HO2 := Lib.hid ho2
      clear hW2 hc2 ho2 k0 k1 f1 f2 cb cbf cnt cnf clt clf chd
      have k0 := HC2.out.c0
      have k1 := HC2.out.c1
      have f1 := HC2.out.fzn
      have f2 := HC2.out.fzl
      obtain ⟨v5, cb⟩ : ∃ v, W2.cell? ⟨Lb, t * 3, none⟩ = some (.int .i64 v) := ⟨_, HC2.out.l0 t ht⟩
      obtain ⟨v6, cbf⟩ : ∃ v, W2.cell? ⟨Lb, f * 3, none⟩ = some (.int .i64 v) := ⟨_, HC2.out.l0 f hf⟩
      obtain ⟨v7, cnt⟩ : ∃ v, W2.cell? ⟨Lb, t * 3 + 1, none⟩ = some (.int .i64 v) := ⟨_, HC2.out.l1 t ht⟩
      obtain ⟨v8, cnf⟩ : ∃ v, W2.cell? ⟨Lb, f * 3 + 1, none⟩ = some (.int .i64 v) := ⟨_, HC2.out.l1 f hf⟩
      have clt := HC2.out.l2 t ht
      dsimp only at clt
      rw [HFT.out] at clt
      have clf := HC2.out.l2 f hf
      dsimp only at clf
      rw [HFL.out] at clf
      obtain ⟨v11, chd⟩ : ∃ v, W2.cell? ⟨Nb, hd * 3, none⟩ = some (.int .i64 v) := ⟨_, HC2.out.n0 hd hhd⟩
      go_region
      refine post_name ?_
      intro W3 hW3
      have hc3 : ChainAt W3 C Nb Lb n l { bk := upd (S.bk) hd (-1), nx := S.nx, ls := (fun y => if y ∈ r then (t : Int) else S.ls y), fb := upd (S.fb) t (la : Int), fn := upd (S.fn) t (hd : Int), fl := upd (S.fl) t (ft + (r.length : Nat)) } := by
        rw [hW3]
        repeat (with_reducible refine ChainAt.drew ?_)
        exact (HC2.out.set_l2 t (ft + (r.length : Nat)) ht)
      have ho3 : Off Nb Lb w W3 := by
        rw [hW3]
        repeat (with_reducible refine Off.drew ?_)
        exact (HO2.out.set (p := ⟨Lb, t * 3 + 2, none⟩) (Or.inr rfl) (.int .i64 (ft + (r.length : Nat))))
      have HC3 := Lib.hid hc3
      have HO3 := Lib.hid ho3
      clear hW3 hc3 ho3 k0 k1 f1 f2 cb cbf cnt cnf clt clf chd
      have k0 := HC3.out.c0
      have k1 := HC3.out.c1
      have f1 := HC3.out.fzn
      have f2 := HC3.out.fzl
      obtain ⟨v5, cb⟩ : ∃ v, W3.cell? ⟨Lb, t * 3, none⟩ = some (.int .i64 v) := ⟨_, HC3.out.l0 t ht⟩
      obtain ⟨v6, cbf⟩ : ∃ v, W3.cell? ⟨Lb, f * 3, none⟩ = some (.int .i64 v) := ⟨_, HC3.out.l0 f hf⟩
      obtain ⟨v7, cnt⟩ : ∃ v, W3.cell? ⟨Lb, t * 3 + 1, none⟩ = some (.int .i64 v) := ⟨_, HC3.out.l1 t ht⟩
      obtain ⟨v8, cnf⟩ : ∃ v, W3.cell? ⟨Lb, f * 3 + 1, none⟩ = some (.int .i64 v) := ⟨_, HC3.out.l1 f hf⟩
      obtain ⟨v9, clt⟩ : ∃ v, W3.cell? ⟨Lb, t * 3 + 2, none⟩ = some (.int .i64 v) := ⟨_, HC3.out.l2 t ht⟩
      obtain ⟨v10, clf⟩ : ∃ v, W3.cell? ⟨Lb, f * 3 + 2, none⟩ = some (.int .i64 v) := ⟨_, HC3.out.l2 f hf⟩
      obtain ⟨v11, chd⟩ : ∃ v, W3.cell? ⟨Nb, hd * 3, none⟩ = some (.int .i64 v) := ⟨_, HC3.out.n0 hd hhd⟩
      go_wp2_with fail
      go_ret
      refine ⟨rfl, ?_, (((HO3.out.set (p := ⟨Lb, f * 3, none⟩) (Or.inr rfl) (.int .i64 (-1))).set (p := ⟨Lb, f * 3 + 1, none⟩) (Or.inr rfl) (.int .i64 (-1))).set (p := ⟨Lb, f * 3 + 2, none⟩) (Or.inr rfl) (.int .i64 0))⟩
      have e : S.join t f r = { bk := upd (S.bk) hd (-1), nx := S.nx, ls := (fun y => if y ∈ r then (t : Int) else S.ls y), fb := upd (upd (S.fb) t (la : Int)) f (-1), fn := upd (upd (S.fn) t (hd : Int)) f (-1), fl := upd (upd (S.fl) t (ft + (r.length : Nat))) f 0 } := by
        unfold CS.join
        rw [HFN.out, HY.out, HLA.out, HFT.out, HFL.out]
        simp
      rw [e]
      exact (((HC3.out.set_l0 f (-1) hf).set_l1 f (-1) hf).set_l2 f 0 hf)
    · have hkl : k < r.length := by have := HK.out; omega
      have hdr := List.drop_eq_getElem_cons hkl
      have hxn := HLT.out k hkl
      have hnx := HNX.out k hkl
      obtain ⟨x, hx⟩ : ∃ x, r[k] = x := ⟨_, rfl⟩
      have hls := ls_step (f := S.ls) (t := t) hkl hx
      rw [hx] at hdr hxn hnx
      rw [hdr, PC.headD_cons]
      have k0 := HC.out.c0
      have x1 := HC.out.n1 x hxn
      have x2 := HC.out.n2 x hxn
      have f1 := HC.out.fzn
      have aCN := HC.out.aCN
      dsimp only at x1
      rw [hnx] at x1
      obtain ⟨v2, x2⟩ : ∃ v, wr.cell? ⟨Nb, x * 3 + 2, none⟩ = some (.int .i64 v) := ⟨_, x2⟩
      obtain ⟨nxt, hnxt⟩ : ∃ v, PC.headD (r.drop (k + 1)) = v := ⟨_, rfl⟩
      rw [hnxt] at x1
      have HLS := Lib.hid hls
      have HNT := Lib.hid hnxt
      have HKL := Lib.hid hkl
      have HG := Lib.hid hg
      have p0 : (0 : Int) ≤ (x : Int) := by omega
      have p1 : (x : Int) < (n : Int) := by omega
      clear hls hnxt hkl hg hdr hnx hx
      go_wp2_with fail
      go_roundg (gk - 1)
      case measure => have := HG.out; omega
      case rel =>
        refine ⟨k + 1, by have := HK.out; have := HG.out; omega, by rw [HNT.out], ?_, HO.out.set (p := ⟨Nb, x * 3 + 2, none⟩) (Or.inl rfl) (.int .i64 t)⟩
        have := HC.out.set_n2 x t hxn
        dsimp only at this
        rwa [HLS.out] at this

theorem over_Join {w0 w : World} {C Nb Lb n l : Nat} {R : Nat → List Nat} (t f : Int) (h : ChainOver w0 w C Nb Lb n l R) :
    Calls Try.prog 34 #[.pointer (some ⟨C, 0, none⟩), .int .i64 t, .int .i64 f] w fun e w' => e = .returned (.bool (PC.joinB l t f)) ∧ ChainOver w0 w' C Nb Lb n l (PC.joinR l R t f) ∧ Off Nb Lb w w' := by
  have up : ∀ (w' : World) (R' : Nat → List Nat), ChainRows w' C Nb Lb n l R' → Off Nb Lb w w' → ChainOver w0 w' C Nb Lb n l R' ∧ Off Nb Lb w w' :=
    fun w' R' hr ho => ⟨⟨hr, h.below.trans (ho.below h.b2 h.b3 h.below.size), h.b1, h.b2, h.b3⟩, ho⟩
  by_cases hb : PC.joinB l t f = true
  · have eR : PC.joinR l R t f = PC.updR (PC.updR R t.toNat (R t.toNat ++ R f.toNat)) f.toNat [] := by unfold PC.joinR; rw [if_pos hb]
    rw [eR, hb]
    unfold PC.joinB at hb
    simp only [decide_eq_true_eq] at hb
    obtain ⟨h1, h2, h3, h4, h5⟩ := hb
    obtain ⟨t, rfl⟩ : ∃ x : Nat, t = x := ⟨t.toNat, by omega⟩
    obtain ⟨f, rfl⟩ : ∃ x : Nat, f = x := ⟨f.toNat, by omega⟩
    simp only [Int.toNat_natCast]
    obtain ⟨S, hS, hi⟩ := h.rows
    have ht : t < l := by omega
    have hf : f < l := by omega
    have hne : t ≠ f := by omega
    have hbn := hS.bn
    have hlf := hi.len hf
    have hlt := hi.len ht
    have hflf := hi.fl f hf
    have hflt := hi.fl t ht
    by_cases hr : R f = []
    · rw [PC.join_empty hr]
      refine (chain_Join_empty C Nb Lb n l S t f w hS ht hf hne (by rw [hflf, hr]; rfl)).mono ?_
      rintro e w' ⟨he, h6, h7⟩
      exact ⟨he, up w' R ⟨S, h6, hi⟩ h7⟩
    · have hinv := hi.join ht hf hne hr
      obtain ⟨hd, e1, m1⟩ := PC.headD_nat hr
      obtain ⟨la, e2, m2⟩ := PC.lastD_nat hr
      have hpos : 0 < (R f).length := List.length_pos_iff.2 hr
      have hnx : ∀ k (hk : k < (R f).length), S.nx (R f)[k] = PC.headD ((R f).drop (k + 1)) := fun k hk => hi.nx f hf _ ((R f).take k) _ (by rw [← List.drop_eq_getElem_cons hk, List.take_append_drop])
      have hltn : ∀ k (hk : k < (R f).length), (R f)[k] < n := fun k hk => hi.lt f hf _ (List.getElem_mem hk)
      have fin : ∀ (e : Ending) (w' : World), JoinsTo w C Nb Lb n l (S.join t f (R f)) e w' → (e = .returned (.bool true) ∧ ChainOver w0 w' C Nb Lb n l (PC.updR (PC.updR R t (R t ++ R f)) f []) ∧ Off Nb Lb w w') :=
        fun e w' ⟨he, h6, h7⟩ => ⟨he, up w' _ ⟨_, h6, hinv⟩ h7⟩
      rcases PC.lastD_cases (R t) with ⟨q1, q2⟩ | ⟨c, y, q1, q2⟩
      · exact (chain_Join_first C Nb Lb n l S t f hd la (R f) w hS ht hf hne hpos (by omega) hltn hnx ((hi.fn f hf).trans e1) e1 (hi.lt f hf hd m1) ((hi.fb f hf).trans e2) hflf (by omega) ((hi.fb t ht).trans q2)).mono fin
      · exact (chain_Join_back C Nb Lb n l S t f hd la (R f) w hS ht hf hne hpos (by omega) hltn hnx ((hi.fn f hf).trans e1) e1 (hi.lt f hf hd m1) ((hi.fb f hf).trans e2) hflf (by omega) y ((hi.fb t ht).trans q2) (hi.lt t ht y (by rw [q1]; simp))).mono fin
  · have hb' : PC.joinB l t f = false := by simpa using hb
    have eR : PC.joinR l R t f = R := by unfold PC.joinR; rw [if_neg hb]
    rw [eR, hb']
    refine (chain_Join_no t f h.rows hb').mono ?_
    rintro e w' ⟨rfl, rfl⟩
    exact ⟨rfl, h, Off.refl _ _ _⟩
end Go.Proofs.Ytdhcmnbajkpjiaa
