/-
  A forest: Root, Child, Drop.
-/
import Derived.Test.YtdhcmnbajkpjiaaNodeF
namespace Go.Proofs.Ytdhcmnbajkpjiaa
open Go.RowKit
open Go.Maps
set_option linter.unusedVariables false
set_option linter.unusedSimpArgs false
attribute [local go_sem] drewN_alloc drewN_setCell
variable {B : Nat} {w : World} {Fb Sb Gb Mb Pb C Nb Lb n : Nat} {v : Value} {g up : List Int} {O cl : List Nat} {fr : Nat} {R : Nat → List Nat}

theorem getD_setI {l : List Int} {j : Nat} {m : Int} (hj : j < l.length) (i : Nat) : (l.set j m).getD i 0 = if i = j then m else l.getD i 0 := by
  simp only [List.getD, List.getElem?_set]
  by_cases e : i = j
  · subst e; simp [hj]
  · rw [if_neg (fun h => e h.symm), if_neg e]
theorem FI.add (hi : FI n up O cl fr R) {p : Nat} {cl' : List Nat} {fr' : Nat} (hp : pickP cl fr n = some (p, cl', fr')) (hul : up.length = n) {i : Nat} {q : Int} (hil : i < n + 1) (hq : (i = n ∧ q = -1) ∨ (i < n ∧ i ∈ O ∧ q = (i : Int))) :
    FI n (up.set p q) (p :: O) cl' fr' (PC.updR R i (R i ++ [p])) := by
  obtain ⟨hi2, hno, hpn, hpf⟩ := hi.s.pick hp
  have hnR : ∀ j, j < n + 1 → p ∉ R j := fun j hj hm => hno (hi.i1 p j hj hm)
  refine ⟨hi2, fun x j hj hx => ?_, fun x hx => ?_, fun x j hj hx => ?_, hi.n1⟩
  · by_cases e : j = i
    · subst e
      rw [PC.updR_same] at hx
      rcases List.mem_append.1 hx with h | h
      · exact List.mem_cons_of_mem _ (hi.i1 x j hj h)
      · simp at h; subst h; exact List.mem_cons_self
    · rw [PC.updR_other e] at hx
      exact List.mem_cons_of_mem _ (hi.i1 x j hj hx)
  · rcases List.mem_cons.1 hx with h | h
    · exact ⟨i, hil, by rw [PC.updR_same, h]; simp⟩
    · obtain ⟨j, hj, hm⟩ := hi.i2 x h
      refine ⟨j, hj, ?_⟩
      by_cases e : j = i
      · subst e; rw [PC.updR_same]; exact List.mem_append.2 (.inl hm)
      · rw [PC.updR_other e]; exact hm
  · rw [getD_setI (by omega)]
    by_cases ex : x = p
    · subst ex
      rw [if_pos rfl]
      have ej : j = i := by
        apply Classical.byContradiction
        intro e
        rw [PC.updR_other e] at hx
        exact hnR j hj hx
      subst ej
      rcases hq with ⟨a, b⟩ | ⟨a, b, c⟩
      · exact .inl ⟨a, b⟩
      · exact .inr ⟨a, List.mem_cons_of_mem _ b, c⟩
    · rw [if_neg ex]
      have hx2 : x ∈ R j := by
        by_cases e : j = i
        · subst e
          rw [PC.updR_same] at hx
          rcases List.mem_append.1 hx with h | h
          · exact h
          · simp at h; exact absurd h ex
        · rwa [PC.updR_other e] at hx
      rcases hi.pa x j hj hx2 with ⟨a, b⟩ | ⟨a, b, c⟩
      · exact .inl ⟨a, b⟩
      · exact .inr ⟨a, List.mem_cons_of_mem _ b, c⟩
theorem cut_mem {r : List Nat} {y : Nat} (hn : r.Nodup) (hy : y ∈ r) (x : Nat) : x ∈ PC.cut r y ↔ x ∈ r ∧ x ≠ y := by
  have e := PC.split_idx hy
  have e2 : PC.cut r y = r.take (r.idxOf y) ++ r.drop (r.idxOf y + 1) := rfl
  rw [e2]
  rw [e] at hn
  have h1 := List.nodup_append.1 hn
  have h2 := List.nodup_cons.1 h1.2.1
  constructor
  · intro h
    rcases List.mem_append.1 h with h | h
    · exact ⟨List.mem_of_mem_take h, fun ee => h1.2.2 x h y List.mem_cons_self ee⟩
    · exact ⟨List.mem_of_mem_drop h, fun ee => h2.1 (ee ▸ h)⟩
  · rintro ⟨h, hne⟩
    rw [e] at h
    rcases List.mem_append.1 h with h | h
    · exact List.mem_append.2 (.inl h)
    · rcases List.mem_cons.1 h with h | h
      · exact absurd h hne
      · exact List.mem_append.2 (.inr h)
theorem FI.drop {St : CS} (hi : FI n up O cl fr R) (hc : PC.Inv n (n + 1) St R) {p j : Nat} (hp : p ∈ O) (hj : j < n + 1) (hpj : p ∈ R j) (h0 : R p = []) : FI n up (O.erase p) (cl ++ [p]) fr (PC.updR R j (PC.cut (R j) p)) := by
  have hne : ∀ x k, k < n + 1 → x ∈ PC.updR R j (PC.cut (R j) p) k → x ∈ R k ∧ x ≠ p := fun x k hk hx => by
    by_cases e : k = j
    · subst e
      rw [PC.updR_same] at hx
      exact (cut_mem (hc.nd k hk) hpj x).1 hx
    · rw [PC.updR_other e] at hx
      refine ⟨hx, fun ee => ?_⟩
      subst ee
      exact e (hc.one hk hj hx hpj)
  refine ⟨hi.s.close hp, fun x k hk hx => ?_, fun x hx => ?_, fun x k hk hx => ?_, hi.n1⟩
  · obtain ⟨a, b⟩ := hne x k hk hx
    exact (List.mem_erase_of_ne b).2 (hi.i1 x k hk a)
  · have hxp : x ≠ p := ((hi.s.o1.mem_erase_iff).1 hx).1
    obtain ⟨k, hk, hm⟩ := hi.i2 x (List.mem_of_mem_erase hx)
    refine ⟨k, hk, ?_⟩
    by_cases e : k = j
    · subst e; rw [PC.updR_same]; exact (cut_mem (hc.nd k hk) hpj x).2 ⟨hm, hxp⟩
    · rw [PC.updR_other e]; exact hm
  · obtain ⟨a, b⟩ := hne x k hk hx
    rcases hi.pa x k hk a with h | ⟨c, d, e⟩
    · exact .inl h
    · refine .inr ⟨c, (List.mem_erase_of_ne (fun ee => ?_)).2 d, e⟩
      subst ee
      rw [h0] at a
      cases a
theorem node_Root {p : Nat} {cl' : List Nat} {fr' : Nat} (h : NodeAt B w Fb Sb Gb Mb Pb C Nb Lb n v g up O cl fr R) (hi : FI n up O cl fr R) (hp : pickP cl fr n = some (p, cl', fr')) :
    Calls Try.prog 41 #[.pointer (some ⟨Fb, 0, none⟩)] w (NAdd B Fb Sb Gb Mb Pb C Nb Lb n v g up O R n (-1) p cl' fr' w) := by
  have K1 := Lib.hid (node_is h)
  have K2 := Lib.hid (node_roots h)
  have K3 := Lib.hid (node_add n (-1) h hi (by omega) hp)
  clear h hi hp
  go_enter Try.func41, Try.ntmps41
  go_wp2_with fail
  refine K1.out.mono ?_
  rintro e w1 ⟨rfl, rfl⟩
  go_wp2_with fail
  refine K2.out.mono ?_
  rintro e w1 ⟨rfl, rfl⟩
  go_wp2_with fail
  refine K3.out.mono ?_
  rintro e w1 ⟨rfl, h1⟩
  have HF : Hid (NAdd B Fb Sb Gb Mb Pb C Nb Lb n v g up O R n (-1) p cl' fr' w (.returned (.tuple #[.int .i64 (p : Int), .int .i64 (g.getD p 0), .bool true])) w1) := Lib.hid ⟨rfl, h1⟩
  generalize g.getD p 0 = gp at *
  clear h1
  go_wp2_with fail
  exact bodyPost_ret (v := .tuple #[.int .i64 (p : Int), .int .i64 gp, .bool true]) (by simp [results, Try.results41, go_sem]) rfl HF.out
theorem node_Root_no (h : NodeAt B w Fb Sb Gb Mb Pb C Nb Lb n v g up O cl fr R) (hp : pickP cl fr n = none) :
    Calls Try.prog 41 #[.pointer (some ⟨Fb, 0, none⟩)] w fun e w' => e = .returned (.tuple #[.int .i64 0, .int .i64 0, .bool false]) ∧ Below w.heap.size w w' := by
  have K1 := Lib.hid (node_is h)
  have K2 := Lib.hid (node_roots h)
  have K3 := Lib.hid (node_add_no (n : Int) (-1) h hp)
  clear h hp
  go_enter Try.func41, Try.ntmps41
  go_wp2_with fail
  refine K1.out.mono ?_
  rintro e w1 ⟨rfl, rfl⟩
  go_wp2_with fail
  refine K2.out.mono ?_
  rintro e w1 ⟨rfl, rfl⟩
  go_wp2_with fail
  refine K3.out.mono ?_
  rintro e w1 ⟨rfl, h1⟩
  go_wp2_with fail
  exact bodyPost_ret (v := .tuple #[.int .i64 0, .int .i64 0, .bool false]) (by simp [results, Try.results41, go_sem]) rfl ⟨rfl, h1⟩
theorem node_Child {p : Nat} {cl' : List Nat} {fr' : Nat} (i : Nat) (h : NodeAt B w Fb Sb Gb Mb Pb C Nb Lb n v g up O cl fr R) (hi : FI n up O cl fr R) (hiO : i ∈ O) (hp : pickP cl fr n = some (p, cl', fr')) :
    Calls Try.prog 40 #[.pointer (some ⟨Fb, 0, none⟩), .int .i64 (i : Int)] w (NAdd B Fb Sb Gb Mb Pb C Nb Lb n v g up O R i (i : Int) p cl' fr' w) := by
  have K1 := node_Is (i : Int) h hi
  rw [decide_eq_true (in_ints.2 hiO)] at K1
  replace K1 := Lib.hid K1
  have K3 := Lib.hid (node_add i (i : Int) h hi (by have := hi.lt hiO; omega) hp)
  clear h hi hp hiO
  go_enter Try.func40, Try.ntmps40
  go_wp2_with fail
  refine K1.out.mono ?_
  rintro e w1 ⟨rfl, rfl⟩
  go_wp2_with fail
  refine K3.out.mono ?_
  rintro e w1 ⟨rfl, h1⟩
  have HF : Hid (NAdd B Fb Sb Gb Mb Pb C Nb Lb n v g up O R i (i : Int) p cl' fr' w (.returned (.tuple #[.int .i64 (p : Int), .int .i64 (g.getD p 0), .bool true])) w1) := Lib.hid ⟨rfl, h1⟩
  generalize g.getD p 0 = gp at *
  clear h1
  go_wp2_with fail
  exact bodyPost_ret (v := .tuple #[.int .i64 (p : Int), .int .i64 gp, .bool true]) (by simp [results, Try.results40, go_sem]) rfl HF.out
theorem node_Child_no (x : Int) (h : NodeAt B w Fb Sb Gb Mb Pb C Nb Lb n v g up O cl fr R) (hi : FI n up O cl fr R) (hno : x ∉ ints O ∨ pickP cl fr n = none) :
    Calls Try.prog 40 #[.pointer (some ⟨Fb, 0, none⟩), .int .i64 x] w fun e w' => e = .returned (.tuple #[.int .i64 0, .int .i64 0, .bool false]) ∧ Below w.heap.size w w' := by
  have K1 := node_Is x h hi
  by_cases hx : x ∈ ints O
  · rw [decide_eq_true hx] at K1
    replace K1 := Lib.hid K1
    have K3 := Lib.hid (node_add_no x x h (hno.resolve_left (fun h => h hx)))
    clear h hi hno hx
    go_enter Try.func40, Try.ntmps40
    go_wp2_with fail
    refine K1.out.mono ?_
    rintro e w1 ⟨rfl, rfl⟩
    go_wp2_with fail
    refine K3.out.mono ?_
    rintro e w1 ⟨rfl, h1⟩
    go_wp2_with fail
    exact bodyPost_ret (v := .tuple #[.int .i64 0, .int .i64 0, .bool false]) (by simp [results, Try.results40, go_sem]) rfl ⟨rfl, h1⟩
  · rw [decide_eq_false hx] at K1
    replace K1 := Lib.hid K1
    clear h hi hno hx
    go_enter Try.func40, Try.ntmps40
    go_wp2_with fail
    refine K1.out.mono ?_
    rintro e w1 ⟨rfl, rfl⟩
    go_wp2_with fail
    exact bodyPost_ret (v := .tuple #[.int .i64 0, .int .i64 0, .bool false]) (by simp [results, Try.results40, go_sem]) rfl ⟨rfl, Below.refl _ _⟩
/-- May it be dropped? -/
def dropOk (O : List Nat) (R : Nat → List Nat) (x : Int) : Bool := decide (x ∈ ints O) && decide (R x.toNat = [])
theorem node_Drop_no (x : Int) (h : NodeAt B w Fb Sb Gb Mb Pb C Nb Lb n v g up O cl fr R) (hi : FI n up O cl fr R) (hno : dropOk O R x = false) :
    Calls Try.prog 39 #[.pointer (some ⟨Fb, 0, none⟩), .int .i64 x] w fun e w' => e = .returned (.bool false) ∧ w = w' := by
  have K1 := node_Is x h hi
  have f1 := h.f1
  by_cases hx : x ∈ ints O
  · rw [decide_eq_true hx] at K1
    replace K1 := Lib.hid K1
    have K2 := Lib.hid (chain_Len x h.ch)
    have hlen : 0 < (PC.rowV (n + 1) R x).length := by
      unfold dropOk at hno
      rw [decide_eq_true hx] at hno
      simp at hno
      obtain ⟨p, hp, rfl⟩ : ∃ p : Nat, p ∈ O ∧ x = p := by
        unfold ints at hx
        obtain ⟨p, hp, e⟩ := List.mem_map.1 hx
        exact ⟨p, hp, e.symm⟩
      rw [PC.rowV_in (by have := hi.lt hp; omega)]
      exact List.length_pos_iff.2 (by simpa using hno)
    generalize (PC.rowV (n + 1) R x).length = m at *
    have q : decide ((0 : Int) < (m : Int)) = true := decide_eq_true (by omega)
    have q' : (0 : Int) < (m : Int) := by omega
    clear h hi hno hx
    go_enter Try.func39, Try.ntmps39
    go_wp2_with fail
    refine K1.out.mono ?_
    rintro e w1 ⟨rfl, rfl⟩
    go_wp2_with fail
    refine K2.out.mono ?_
    rintro e w1 ⟨rfl, rfl⟩
    go_wp2_with fail
    go_ret
    exact ⟨rfl, rfl⟩
  · rw [decide_eq_false hx] at K1
    replace K1 := Lib.hid K1
    clear h hi hno hx
    go_enter Try.func39, Try.ntmps39
    go_wp2_with fail
    refine K1.out.mono ?_
    rintro e w1 ⟨rfl, rfl⟩
    go_wp2_with fail
    go_ret
    exact ⟨rfl, rfl⟩
def NDrop (B Fb Sb Gb Mb Pb C Nb Lb n : Nat) (v : Value) (g up : List Int) (O cl : List Nat) (fr : Nat) (R : Nat → List Nat) (p : Nat) (w : World) (e : Ending) (w' : World) : Prop :=
  e = .returned (.bool true) ∧ Chg (fun k => k = Sb ∨ k = Gb ∨ k = Mb ∨ k = Pb ∨ k = Nb ∨ k = Lb ∨ v.ownBlock = some k) w w' ∧ ∃ v' j, j < n + 1 ∧ p ∈ R j ∧ NodeAt B w' Fb Sb Gb Mb Pb C Nb Lb n v' (g.set p (IntKind.i64.wrap (g.getD p 0 + 1))) up (O.erase p) (cl ++ [p]) fr (PC.updR R j (PC.cut (R j) p)) ∧ FI n up (O.erase p) (cl ++ [p]) fr (PC.updR R j (PC.cut (R j) p)) ∧ (v'.ownBlock = v.ownBlock ∨ ∃ k, v'.ownBlock = some k ∧ w.heap.size ≤ k)
set_option maxRecDepth 100000 in
set_option maxHeartbeats 4000000 in
theorem node_Drop (p : Nat) (h : NodeAt B w Fb Sb Gb Mb Pb C Nb Lb n v g up O cl fr R) (hi : FI n up O cl fr R) (hok : dropOk O R (p : Int) = true) :
    Calls Try.prog 39 #[.pointer (some ⟨Fb, 0, none⟩), .int .i64 (p : Int)] w (NDrop B Fb Sb Gb Mb Pb C Nb Lb n v g up O cl fr R p w) := by
  unfold dropOk at hok
  simp only [Bool.and_eq_true, decide_eq_true_eq] at hok
  obtain ⟨hx, h0⟩ := hok
  have hp := in_ints.1 hx
  have e0 : ((p : Int)).toNat = p := by omega
  rw [e0] at h0
  have hpn := hi.lt hp
  have K1 := node_Is (p : Int) h hi
  rw [decide_eq_true hx] at K1
  replace K1 := Lib.hid K1
  have K2 := chain_Len (p : Int) h.ch
  rw [PC.rowV_in (by omega), h0] at K2
  have K2 : Hid (Calls Try.prog 28 #[.pointer (some ⟨C, 0, none⟩), .int .i64 (p : Int)] w fun e w' => e = .returned (.int .i64 0) ∧ w = w') := Lib.hid K2
  have K3 := chain_Drop (p : Int) h.ch
  have hof := (hi.of (p : Int)).2 hx
  have hdb : PC.dropB (n + 1) R (p : Int) = true := by rw [PC.dropB_ofV]; exact decide_eq_true hof
  rw [hdb] at K3
  obtain ⟨j, hj, hpj, hdr⟩ : ∃ j, j < n + 1 ∧ p ∈ R j ∧ PC.dropR (n + 1) R (p : Int) = PC.updR R j (PC.cut (R j) p) := by
    unfold PC.dropR
    rcases hr : PC.rowOf (n + 1) R (p : Int) with _ | j
    · rw [PC.ofV_none hr] at hof; exact absurd hof (by decide)
    · obtain ⟨a, b, c, _⟩ := PC.rowOf_some hr
      exact ⟨j, a, by simpa using c, rfl⟩
  rw [hdr] at K3
  replace K3 := Lib.hid K3
  have HFI : Hid (FI n up (O.erase p) (cl ++ [p]) fr (PC.updR R j (PC.cut (R j) p))) := Lib.hid (by
    obtain ⟨St, _, hc⟩ := h.ch
    exact hi.drop hc hp hj hpj h0)
  have f1 := h.f1
  have H := Lib.hid h
  have HI := Lib.hid hi
  have HJ := Lib.hid (And.intro hj hpj)
  have hn := h.ne
  obtain ⟨nFbSb, nFbGb, nFbMb, nFbPb, nFbC, nFbNb, nFbLb, nSbGb, nSbMb, nSbPb, nSbC, nSbNb, nSbLb, nGbMb, nGbPb, nGbC, nGbNb, nGbLb, nMbPb, nMbC, nMbNb, nMbLb, nPbC, nPbNb, nPbLb, nCNb, nCLb, nNbLb⟩ := ids_split hn
  clear hn h hi hof hdb hdr hx h0 hj hpj
  have HX := Lib.hid hp
  clear hp e0
  go_enter Try.func39, Try.ntmps39
  go_wp2_with fail
  refine K1.out.mono ?_
  rintro e w1 ⟨rfl, rfl⟩
  go_wp2_with fail
  refine K2.out.mono ?_
  rintro e w1 ⟨rfl, rfl⟩
  go_wp2_with fail
  refine K3.out.mono ?_
  rintro e w1 ⟨rfl, h1, ho⟩
  have e1 : ∀ k, k < w.heap.size → k ≠ Nb → k ≠ Lb → w1.heap[k]? = w.heap[k]? := fun k hk a b => ho.block k a b hk
  have r1 := H.out.row.of_block (e1 _ H.out.row.lt (by first | assumption | exact Ne.symm (by assumption)) (by first | assumption | exact Ne.symm (by assumption)))
  have p1 := H.out.par.of_block (e1 _ H.out.par.lt (by first | assumption | exact Ne.symm (by assumption)) (by first | assumption | exact Ne.symm (by assumption)))
  have s1 : SlotsAt B w1 Sb Gb Mb n v g O cl fr := H.out.sl.of_blocks (fun k hk hh => e1 k hk (by
    rcases hh with rfl | rfl | rfl | h
    · first | assumption | exact Ne.symm (by assumption)
    · first | assumption | exact Ne.symm (by assumption)
    · first | assumption | exact Ne.symm (by assumption)
    · have := (World.ownsRow.lt H.out.sl.own k h).1; have := H.out.lt; omega) (by
    rcases hh with rfl | rfl | rfl | h
    · first | assumption | exact Ne.symm (by assumption)
    · first | assumption | exact Ne.symm (by assumption)
    · first | assumption | exact Ne.symm (by assumption)
    · have := (World.ownsRow.lt H.out.sl.own k h).1; have := H.out.lt; omega))
  have b1 : B ≤ w1.heap.size := by have := H.out.bw; have := ho.size; omega
  have C1 : Chg (fun k => k = Sb ∨ k = Gb ∨ k = Mb ∨ k = Pb ∨ k = Nb ∨ k = Lb ∨ v.ownBlock = some k) w w1 := Chg.of_off ho (.inr (.inr (.inr (.inr (.inl rfl))))) (.inr (.inr (.inr (.inr (.inr (.inl rfl))))))
  have g0 : w1.cell? ⟨Fb, 0, none⟩ = some (.pointer (some ⟨Sb, 0, none⟩)) := by rw [r1.cell]; rfl
  have hrt : rightB O g (p : Int) (g.getD p 0) = true := by unfold rightB; rw [decide_eq_true (in_ints.2 HX.out)]; simp
  have KG : Hid (∀ W, Below w1.heap.size w1 W → Calls Try.prog 113 #[.pointer (some ⟨Sb, 0, none⟩), .int .i64 (p : Int)] W fun e w' => e = .returned (.int .i64 (g.getD p 0)) ∧ W = w') := Lib.hid (fun W hW => slots_Gen_in p (s1.below hW) hpn)
  have KC : Hid (∀ W, Below w1.heap.size w1 W → Calls Try.prog 112 #[.pointer (some ⟨Sb, 0, none⟩), .int .i64 (p : Int), .int .i64 (g.getD p 0)] W (SClose B Sb Gb Mb n v g O cl fr p W)) := Lib.hid (fun W hW => slots_Close p (g.getD p 0) (s1.below hW) HI.out.s hrt (Nat.le_trans b1 hW.size))
  have HFIN : Hid (∀ W w2, Below w1.heap.size w1 W → SClose B Sb Gb Mb n v g O cl fr p W (.returned (.bool true)) w2 → w2.cell? ⟨Fb, 0, none⟩ = some (.pointer (some ⟨Sb, 0, none⟩)) ∧ NDrop B Fb Sb Gb Mb Pb C Nb Lb n v g up O cl fr R p w (.returned (.bool true)) w2) := Lib.hid (fun W w2 hW hcl => by
    obtain ⟨_, v', h2, hc, hv⟩ := hcl
    have rW := r1.keep hW
    have pW := p1.keep hW
    have cW := h1.keep hW
    have e2 : ∀ k, k < W.heap.size → k ≠ Sb → k ≠ Gb → k ≠ Mb → v.ownBlock ≠ some k → w2.heap[k]? = W.heap[k]? := fun k hk a b c d => hc.block k hk (fun h => by
      rcases h with h | h | h | h
      · exact a h
      · exact b h
      · exact c h
      · exact d h)
    have hov : ∀ k, k < B → v.ownBlock ≠ some k := fun k hk e => by have := (World.ownsRow.lt s1.own k e).1; omega
    obtain ⟨l1, l2, l3, l4, l5⟩ := H.out.lt
    have r2 := rW.of_block (e2 _ rW.lt (by first | assumption | exact Ne.symm (by assumption)) (by first | assumption | exact Ne.symm (by assumption)) (by first | assumption | exact Ne.symm (by assumption)) (hov _ l1))
    obtain ⟨z1, z2, z3⟩ := cW.lt1
    refine ⟨by rw [r2.cell]; rfl, rfl, (C1.trans (Chg.of_below hW)).trans (hc.mono (fun k _ h => ?_)), v', j, HJ.out.1, HJ.out.2, ⟨r2, pW.of_block (e2 _ pW.lt (by first | assumption | exact Ne.symm (by assumption)) (by first | assumption | exact Ne.symm (by assumption)) (by first | assumption | exact Ne.symm (by assumption)) (hov _ l2)), H.out.ulen, h2, cW.of_blocks (fun k hk => ?_), H.out.ne, H.out.lt, ?_⟩, HFI.out, ?_⟩
    · rcases h with h | h | h | h
      · exact .inl h
      · exact .inr (.inl h)
      · exact .inr (.inr (.inl h))
      · exact .inr (.inr (.inr (.inr (.inr (.inr h)))))
    · rcases hk with rfl | rfl | rfl
      · exact e2 _ z1 (by first | assumption | exact Ne.symm (by assumption)) (by first | assumption | exact Ne.symm (by assumption)) (by first | assumption | exact Ne.symm (by assumption)) (hov _ l3)
      · exact e2 _ z2 (by first | assumption | exact Ne.symm (by assumption)) (by first | assumption | exact Ne.symm (by assumption)) (by first | assumption | exact Ne.symm (by assumption)) (hov _ l4)
      · exact e2 _ z3 (by first | assumption | exact Ne.symm (by assumption)) (by first | assumption | exact Ne.symm (by assumption)) (by first | assumption | exact Ne.symm (by assumption)) (hov _ l5)
    · have := hW.size; have := hc.size; omega
    · rcases hv with h | ⟨k, a, b⟩
      · exact .inl h
      · exact .inr ⟨k, a, by have := hW.size; have := ho.size; omega⟩)
  have hS : Hid (∀ W : World, Below w1.heap.size w1 W → (fun W : World => W.cell? ⟨Fb, 0, none⟩ = some (.pointer (some ⟨Sb, 0, none⟩))) W) := Lib.hid (fun W hW => (hW.cell r1.lt).trans g0)
  generalize g.getD p 0 = gp at *
  clear h1 ho e1 r1 p1 s1 C1 hrt
  go_wp2_with fail
  refine wp_region_held_drew (S := (fun W : World => W.cell? ⟨Fb, 0, none⟩ = some (.pointer (some ⟨Sb, 0, none⟩)))) (by kernel_rfl) ?_ (fun hHeld => ?_)
  focus ((try dsimp only); first | exact q2 | exact hS.out _ (by repeat (first | exact Below.refl _ _ | assumption | refine bel_drew ?_ | refine bel_drewN ?_ _ | refine bel_trans ?_ (by assumption))))
  refine tk_yes 0 (v := ?_) rfl (by kernel_rfl) (by kernel_rfl) (by kernel_rfl) (fun _ _ _ h => h) (by kernel_rfl) (by assumption) ?_ ?_; rotate_left; (focus (intro w hSw; (try dsimp only at hSw); go_simp; (first | done | (with_reducible rfl)))); (try simp only [Act.put, List.setIfInBounds_toArray, List.set_cons_zero, List.set_cons_succ])
  refine tk_yes 1 (v := ?_) rfl (by kernel_rfl) (by kernel_rfl) (by kernel_rfl) (fun _ _ _ h => h) (by kernel_rfl) (by assumption) ?_ ?_; rotate_left; (focus (intro w hSw; (try dsimp only at hSw); go_simp; (first | done | (with_reducible rfl)))); (try simp only [Act.put, List.setIfInBounds_toArray, List.set_cons_zero, List.set_cons_succ])
  refine tk_yes 2 (v := ?_) rfl (by kernel_rfl) (by kernel_rfl) (by kernel_rfl) (fun _ _ _ h => h) (by kernel_rfl) (by assumption) ?_ ?_; rotate_left; (focus (intro w hSw; (try dsimp only at hSw); go_simp; (first | done | (with_reducible rfl)))); (try simp only [Act.put, List.setIfInBounds_toArray, List.set_cons_zero, List.set_cons_succ])
  refine tk_yes 3 (v := ?_) rfl (by kernel_rfl) (by kernel_rfl) (by kernel_rfl) (fun _ _ _ h => h) (by kernel_rfl) (by assumption) ?_ ?_; rotate_left; (focus (intro w hSw; (try dsimp only at hSw); go_simp; (first | done | (with_reducible rfl)))); (try simp only [Act.put, List.setIfInBounds_toArray, List.set_cons_zero, List.set_cons_succ])
  refine tk_yes 4 (v := ?_) rfl (by kernel_rfl) (by kernel_rfl) (by kernel_rfl) (fun _ _ _ h => h) (by kernel_rfl) (by assumption) ?_ ?_; rotate_left; (focus (intro w hSw; (try dsimp only at hSw); go_simp; (first | done | (with_reducible rfl)))); (try simp only [Act.put, List.setIfInBounds_toArray, List.set_cons_zero, List.set_cons_succ])
  refine tk_yes 5 (v := ?_) rfl (by kernel_rfl) (by kernel_rfl) (by kernel_rfl) (fun _ _ _ h => h) (by kernel_rfl) (by assumption) ?_ ?_; rotate_left; (focus (intro w hSw; (try dsimp only at hSw); go_simp; (first | done | (with_reducible rfl)))); (try simp only [Act.put, List.setIfInBounds_toArray, List.set_cons_zero, List.set_cons_succ])
  refine tk_yes 6 (v := ?_) rfl (by kernel_rfl) (by kernel_rfl) (by kernel_rfl) (fun _ _ _ h => h) (by kernel_rfl) (by assumption) ?_ ?_; rotate_left; (focus (intro w hSw; (try dsimp only at hSw); go_simp; (first | done | (with_reducible rfl)))); (try simp only [Act.put, List.setIfInBounds_toArray, List.set_cons_zero, List.set_cons_succ])
  refine tk_yes 7 (v := ?_) rfl (by kernel_rfl) (by kernel_rfl) (by kernel_rfl) (fun _ _ _ h => h) (by kernel_rfl) (by assumption) ?_ ?_; rotate_left; (focus (intro w hSw; (try dsimp only at hSw); go_simp; (first | done | (with_reducible rfl)))); (try simp only [Act.put, List.setIfInBounds_toArray, List.set_cons_zero, List.set_cons_succ])
  refine tk_yes 8 (v := ?_) rfl (by kernel_rfl) (by kernel_rfl) (by kernel_rfl) (fun _ _ _ h => h) (by kernel_rfl) (by assumption) ?_ ?_; rotate_left; (focus (intro w hSw; (try dsimp only at hSw); go_simp; (first | done | (with_reducible rfl)))); (try simp only [Act.put, List.setIfInBounds_toArray, List.set_cons_zero, List.set_cons_succ])
  refine tk_yes 9 (v := ?_) rfl (by kernel_rfl) (by kernel_rfl) (by kernel_rfl) (fun _ _ _ h => h) (by kernel_rfl) (by assumption) ?_ ?_; rotate_left; (focus (intro w hSw; (try dsimp only at hSw); go_simp; (first | done | (with_reducible rfl)))); (try simp only [Act.put, List.setIfInBounds_toArray, List.set_cons_zero, List.set_cons_succ])
  refine tk_call 10 rfl (by kernel_rfl) (by kernel_rfl) (fun KW hKW => ?_); go_simp; go_at_call 113; refine (KG.out _ (by repeat (first | exact Below.refl _ _ | assumption | refine bel_drew ?_ | refine bel_drewN ?_ _ | refine bel_trans ?_ (by assumption)))).mono ?_; rintro e u1 ⟨rfl, rfl⟩; refine hKW.out _ _ ?_ (fun hHeld => ?_); (focus ((try dsimp only); first | exact q2 | exact hS.out _ (by repeat (first | exact Below.refl _ _ | assumption | refine bel_drew ?_ | refine bel_drewN ?_ _ | refine bel_trans ?_ (by assumption))))); clear hKW KW; (try simp only [Act.put, List.setIfInBounds_toArray, List.set_cons_zero, List.set_cons_succ])
  refine tk_call 11 rfl (by kernel_rfl) (by kernel_rfl) (fun KW hKW => ?_); go_simp; go_at_call 112; refine (KC.out _ (by repeat (first | exact Below.refl _ _ | assumption | refine bel_drew ?_ | refine bel_drewN ?_ _ | refine bel_trans ?_ (by assumption)))).mono ?_; rintro e u2 hcl; obtain rfl : e = .returned (.bool true) := hcl.1; have hcl2 := fun hb => HFIN.out _ _ hb hcl; obtain ⟨q2, HND⟩ := hcl2 (by repeat (first | exact Below.refl _ _ | assumption | refine bel_drew ?_ | refine bel_drewN ?_ _ | refine bel_trans ?_ (by assumption))); clear hcl2; replace HND := Lib.hid HND; clear hcl; refine hKW.out _ _ ?_ (fun hHeld => ?_); (focus ((try dsimp only); first | exact q2 | exact hS.out _ (by repeat (first | exact Below.refl _ _ | assumption | refine bel_drew ?_ | refine bel_drewN ?_ _ | refine bel_trans ?_ (by assumption))))); clear hKW KW; (try simp only [Act.put, List.setIfInBounds_toArray, List.set_cons_zero, List.set_cons_succ])
  refine tk_yes 12 (v := ?_) rfl (by kernel_rfl) (by kernel_rfl) (by kernel_rfl) (fun _ _ _ h => h) (by kernel_rfl) (by assumption) ?_ ?_; rotate_left; (focus (intro w hSw; (try dsimp only at hSw); go_simp; (first | done | (with_reducible rfl)))); (try simp only [Act.put, List.setIfInBounds_toArray, List.set_cons_zero, List.set_cons_succ])
  refine wpAnyH_done (by kernel_rfl) ?_ _
  go_wp2_with fail
  exact bodyPost_ret (v := .bool true) (by simp [results, Try.results39, go_sem]) rfl HND.out

end Go.Proofs.Ytdhcmnbajkpjiaa
