/- Part 3 of the proof of RegionStale: lemmas, each with its conditions ahead of it. -/
import Derived.Test.YtdhcmnbajkpjiaaPartRegionStale2
import Derived.Test.YtdhcmnbajkpjiaaPartRegionStale1
import Derived.Test.YtdhcmnbajkpjiaaProg
import Derived.Deep.Cut
import Derived.Outline
import Derived.Maps.AppendAt
import Derived.Deep.AppendLies
import Derived.RegionTactic
import Derived.OwnWalk
/-
  A forest: Root, Child, Drop.
-/
namespace Go.Proofs.Ytdhcmnbajkpjiaa
open Go.RowKit
open Go.Maps
set_option linter.unusedVariables false
set_option linter.unusedSimpArgs false
attribute [local go_sem] drewN_alloc drewN_setCell
variable {B : Nat} {w : World} {Fb Sb Gb Mb Pb C Nb Lb n : Nat} {v : Value} {g up : List Int} {O cl : List Nat} {fr : Nat} {R : Nat → List Nat}

theorem getD_setI {l : List Int} {j : Nat} {m : Int} (hj : j < l.length) (i : Nat) : (l.set j m).getD i 0 = if i = j then m else l.getD i 0 := by
  simp only [List.getD, List.getElem?_set]
  by_cases e : i = j
  · subst e; simp [hj]
  · rw [if_neg (fun h => e h.symm), if_neg e]
theorem FI.add (hi : FI n up O cl fr R) {p : Nat} {cl' : List Nat} {fr' : Nat} (hp : pickP cl fr n = some (p, cl', fr')) (hul : up.length = n) {i : Nat} {q : Int} (hil : i < n + 1) (hq : (i = n ∧ q = -1) ∨ (i < n ∧ i ∈ O ∧ q = (i : Int))) :
    FI n (up.set p q) (p :: O) cl' fr' (PC.updR R i (R i ++ [p])) := by
  obtain ⟨hi2, hno, hpn, hpf⟩ := hi.s.pick hp
  have hnR : ∀ j, j < n + 1 → p ∉ R j := fun j hj hm => hno (hi.i1 p j hj hm)
  refine ⟨hi2, fun x j hj hx => ?_, fun x hx => ?_, fun x j hj hx => ?_, hi.n1⟩
  · by_cases e : j = i
    · subst e
      rw [PC.updR_same] at hx
      rcases List.mem_append.1 hx with h | h
      · exact List.mem_cons_of_mem _ (hi.i1 x j hj h)
      · simp at h; subst h; exact List.mem_cons_self
    · rw [PC.updR_other e] at hx
      exact List.mem_cons_of_mem _ (hi.i1 x j hj hx)
  · rcases List.mem_cons.1 hx with h | h
    · exact ⟨i, hil, by rw [PC.updR_same, h]; simp⟩
    · obtain ⟨j, hj, hm⟩ := hi.i2 x h
      refine ⟨j, hj, ?_⟩
      by_cases e : j = i
      · subst e; rw [PC.updR_same]; exact List.mem_append.2 (.inl hm)
      · rw [PC.updR_other e]; exact hm
  · rw [getD_setI (by omega)]
    by_cases ex : x = p
    · subst ex
      rw [if_pos rfl]
      have ej : j = i := by
        apply Classical.byContradiction
        intro e
        rw [PC.updR_other e] at hx
        exact hnR j hj hx
      subst ej
      rcases hq with ⟨a, b⟩ | ⟨a, b, c⟩
      · exact .inl ⟨a, b⟩
      · exact .inr ⟨a, List.mem_cons_of_mem _ b, c⟩
    · rw [if_neg ex]
      have hx2 : x ∈ R j := by
        by_cases e : j = i
        · subst e
          rw [PC.updR_same] at hx
          rcases List.mem_append.1 hx with h | h
          · exact h
          · simp at h; exact absurd h ex
        · rwa [PC.updR_other e] at hx
      rcases hi.pa x j hj hx2 with ⟨a, b⟩ | ⟨a, b, c⟩
      · exact .inl ⟨a, b⟩
      · exact .inr ⟨a, List.mem_cons_of_mem _ b, c⟩
theorem cut_mem {r : List Nat} {y : Nat} (hn : r.Nodup) (hy : y ∈ r) (x : Nat) : x ∈ PC.cut r y ↔ x ∈ r ∧ x ≠ y := by
  have e := PC.split_idx hy
  have e2 : PC.cut r y = r.take (r.idxOf y) ++ r.drop (r.idxOf y + 1) := rfl
  rw [e2]
  rw [e] at hn
  have h1 := List.nodup_append.1 hn
  have h2 := List.nodup_cons.1 h1.2.1
  constructor
  · intro h
    rcases List.mem_append.1 h with h | h
    · exact ⟨List.mem_of_mem_take h, fun ee => h1.2.2 x h y List.mem_cons_self ee⟩
    · exact ⟨List.mem_of_mem_drop h, fun ee => h2.1 (ee ▸ h)⟩
  · rintro ⟨h, hne⟩
    rw [e] at h
    rcases List.mem_append.1 h with h | h
    · exact List.mem_append.2 (.inl h)
    · rcases List.mem_cons.1 h with h | h
      · exact absurd h hne
      · exact List.mem_append.2 (.inr h)
theorem FI.drop {St : CS} (hi : FI n up O cl fr R) (hc : PC.Inv n (n + 1) St R) {p j : Nat} (hp : p ∈ O) (hj : j < n + 1) (hpj : p ∈ R j) (h0 : R p = []) : FI n up (O.erase p) (cl ++ [p]) fr (PC.updR R j (PC.cut (R j) p)) := by
  have hne : ∀ x k, k < n + 1 → x ∈ PC.updR R j (PC.cut (R j) p) k → x ∈ R k ∧ x ≠ p := fun x k hk hx => by
    by_cases e : k = j
    · subst e
      rw [PC.updR_same] at hx
      exact (cut_mem (hc.nd k hk) hpj x).1 hx
    · rw [PC.updR_other e] at hx
      refine ⟨hx, fun ee => ?_⟩
      subst ee
      exact e (hc.one hk hj hx hpj)
  refine ⟨hi.s.close hp, fun x k hk hx => ?_, fun x hx => ?_, fun x k hk hx => ?_, hi.n1⟩
  · obtain ⟨a, b⟩ := hne x k hk hx
    exact (List.mem_erase_of_ne b).2 (hi.i1 x k hk a)
  · have hxp : x ≠ p := ((hi.s.o1.mem_erase_iff).1 hx).1
    obtain ⟨k, hk, hm⟩ := hi.i2 x (List.mem_of_mem_erase hx)
    refine ⟨k, hk, ?_⟩
    by_cases e : k = j
    · subst e; rw [PC.updR_same]; exact (cut_mem (hc.nd k hk) hpj x).2 ⟨hm, hxp⟩
    · rw [PC.updR_other e]; exact hm
  · obtain ⟨a, b⟩ := hne x k hk hx
    rcases hi.pa x k hk a with h | ⟨c, d, e⟩
    · exact .inl h
    · refine .inr ⟨c, (List.mem_erase_of_ne (fun ee => ?_)).2 d, e⟩
      subst ee
      rw [h0] at a
      cases a
theorem node_Root {p : Nat} {cl' : List Nat} {fr' : Nat} (h : NodeAt B w Fb Sb Gb Mb Pb C Nb Lb n v g up O cl fr R) (hi : FI n up O cl fr R) (hp : pickP cl fr n = some (p, cl', fr')) :
    Calls Try.prog 41 #[.pointer (some ⟨Fb, 0, none⟩)] w (NAdd B Fb Sb Gb Mb Pb C Nb Lb n v g up O R n (-1) p cl' fr' w) := by
  have K1 := Lib.hid (node_is h)
  have K2 := Lib.hid (node_roots h)
  have K3 := Lib.hid (node_add n (-1) h hi (by omega) hp)
  clear h hi hp
  go_enter Try.func41, Try.ntmps41
  go_wp2_with fail
  refine K1.out.mono ?_
  rintro e w1 ⟨rfl, rfl⟩
  go_wp2_with fail
  refine K2.out.mono ?_
  rintro e w1 ⟨rfl, rfl⟩
  go_wp2_with fail
  refine K3.out.mono ?_
  rintro e w1 ⟨rfl, h1⟩
  have HF : Hid (NAdd B Fb Sb Gb Mb Pb C Nb Lb n v g up O R n (-1) p cl' fr' w (.returned (.tuple #[.int .i64 (p : Int), .int .i64 (g.getD p 0), .bool true])) w1) := Lib.hid ⟨rfl, h1⟩
  generalize g.getD p 0 = gp at *
  clear h1
  go_wp2_with fail
  exact bodyPost_ret (v := .tuple #[.int .i64 (p : Int), .int .i64 gp, .bool true]) (by simp [results, Try.results41, go_sem]) rfl HF.out
theorem node_Root_no (h : NodeAt B w Fb Sb Gb Mb Pb C Nb Lb n v g up O cl fr R) (hp : pickP cl fr n = none) :
    Calls Try.prog 41 #[.pointer (some ⟨Fb, 0, none⟩)] w fun e w' => e = .returned (.tuple #[.int .i64 0, .int .i64 0, .bool false]) ∧ Below w.heap.size w w' := by
  have K1 := Lib.hid (node_is h)
  have K2 := Lib.hid (node_roots h)
  have K3 := Lib.hid (node_add_no (n : Int) (-1) h hp)
  clear h hp
  go_enter Try.func41, Try.ntmps41
  go_wp2_with fail
  refine K1.out.mono ?_
  rintro e w1 ⟨rfl, rfl⟩
  go_wp2_with fail
  refine K2.out.mono ?_
  rintro e w1 ⟨rfl, rfl⟩
  go_wp2_with fail
  refine K3.out.mono ?_
  rintro e w1 ⟨rfl, h1⟩
  go_wp2_with fail
  exact bodyPost_ret (v := .tuple #[.int .i64 0, .int .i64 0, .bool false]) (by simp [results, Try.results41, go_sem]) rfl ⟨rfl, h1⟩
theorem node_Child {p : Nat} {cl' : List Nat} {fr' : Nat} (i : Nat) (h : NodeAt B w Fb Sb Gb Mb Pb C Nb Lb n v g up O cl fr R) (hi : FI n up O cl fr R) (hiO : i ∈ O) (hp : pickP cl fr n = some (p, cl', fr')) :
    Calls Try.prog 40 #[.pointer (some ⟨Fb, 0, none⟩), .int .i64 (i : Int)] w (NAdd B Fb Sb Gb Mb Pb C Nb Lb n v g up O R i (i : Int) p cl' fr' w) := by
  have K1 := node_Is (i : Int) h hi
  rw [decide_eq_true (in_ints.2 hiO)] at K1
  replace K1 := Lib.hid K1
  have K3 := Lib.hid (node_add i (i : Int) h hi (by have := hi.lt hiO; omega) hp)
  clear h hi hp hiO
  go_enter Try.func40, Try.ntmps40
  go_wp2_with fail
  refine K1.out.mono ?_
  rintro e w1 ⟨rfl, rfl⟩
  go_wp2_with fail
  refine K3.out.mono ?_
  rintro e w1 ⟨rfl, h1⟩
  have HF : Hid (NAdd B Fb Sb Gb Mb Pb C Nb Lb n v g up O R i (i : Int) p cl' fr' w (.returned (.tuple #[.int .i64 (p : Int), .int .i64 (g.getD p 0), .bool true])) w1) := Lib.hid ⟨rfl, h1⟩
  generalize g.getD p 0 = gp at *
  clear h1
  go_wp2_with fail
  exact bodyPost_ret (v := .tuple #[.int .i64 (p : Int), .int .i64 gp, .bool true]) (by simp [results, Try.results40, go_sem]) rfl HF.out
theorem node_Child_no (x : Int) (h : NodeAt B w Fb Sb Gb Mb Pb C Nb Lb n v g up O cl fr R) (hi : FI n up O cl fr R) (hno : x ∉ ints O ∨ pickP cl fr n = none) :
    Calls Try.prog 40 #[.pointer (some ⟨Fb, 0, none⟩), .int .i64 x] w fun e w' => e = .returned (.tuple #[.int .i64 0, .int .i64 0, .bool false]) ∧ Below w.heap.size w w' := by
  have K1 := node_Is x h hi
  by_cases hx : x ∈ ints O
  · rw [decide_eq_true hx] at K1
    replace K1 := Lib.hid K1
    have K3 := Lib.hid (node_add_no x x h (hno.resolve_left (fun h => h hx)))
    clear h hi hno hx
    go_enter Try.func40, Try.ntmps40
    go_wp2_with fail
    refine K1.out.mono ?_
    rintro e w1 ⟨rfl, rfl⟩
    go_wp2_with fail
    refine K3.out.mono ?_
    rintro e w1 ⟨rfl, h1⟩
    go_wp2_with fail
    exact bodyPost_ret (v := .tuple #[.int .i64 0, .int .i64 0, .bool false]) (by simp [results, Try.results40, go_sem]) rfl ⟨rfl, h1⟩
  · rw [decide_eq_false hx] at K1
    replace K1 := Lib.hid K1
    clear h hi hno hx
    go_enter Try.func40, Try.ntmps40
    go_wp2_with fail
    refine K1.out.mono ?_
    rintro e w1 ⟨rfl, rfl⟩
    go_wp2_with fail
    exact bodyPost_ret (v := .tuple #[.int .i64 0, .int .i64 0, .bool false]) (by simp [results, Try.results40, go_sem]) rfl ⟨rfl, Below.refl _ _⟩
/-- May it be dropped? -/
def dropOk (O : List Nat) (R : Nat → List Nat) (x : Int) : Bool := decide (x ∈ ints O) && decide (R x.toNat = [])
theorem node_Drop_no (x : Int) (h : NodeAt B w Fb Sb Gb Mb Pb C Nb Lb n v g up O cl fr R) (hi : FI n up O cl fr R) (hno : dropOk O R x = false) :
    Calls Try.prog 39 #[.pointer (some ⟨Fb, 0, none⟩), .int .i64 x] w fun e w' => e = .returned (.bool false) ∧ w = w' := by
  have K1 := node_Is x h hi
  have f1 := h.f1
  by_cases hx : x ∈ ints O
  · rw [decide_eq_true hx] at K1
    replace K1 := Lib.hid K1
    have K2 := Lib.hid (chain_Len x h.ch)
    have hlen : 0 < (PC.rowV (n + 1) R x).length := by
      unfold dropOk at hno
      rw [decide_eq_true hx] at hno
      simp at hno
      obtain ⟨p, hp, rfl⟩ : ∃ p : Nat, p ∈ O ∧ x = p := by
        unfold ints at hx
        obtain ⟨p, hp, e⟩ := List.mem_map.1 hx
        exact ⟨p, hp, e.symm⟩
      rw [PC.rowV_in (by have := hi.lt hp; omega)]
      exact List.length_pos_iff.2 (by simpa using hno)
    generalize (PC.rowV (n + 1) R x).length = m at *
    have q : decide ((0 : Int) < (m : Int)) = true := decide_eq_true (by omega)
    have q' : (0 : Int) < (m : Int) := by omega
    clear h hi hno hx
    go_enter Try.func39, Try.ntmps39
    go_wp2_with fail
    refine K1.out.mono ?_
    rintro e w1 ⟨rfl, rfl⟩
    go_wp2_with fail
    refine K2.out.mono ?_
    rintro e w1 ⟨rfl, rfl⟩
    go_wp2_with fail
    go_ret
    exact ⟨rfl, rfl⟩
  · rw [decide_eq_false hx] at K1
    replace K1 := Lib.hid K1
    clear h hi hno hx
    go_enter Try.func39, Try.ntmps39
    go_wp2_with fail
    refine K1.out.mono ?_
    rintro e w1 ⟨rfl, rfl⟩
    go_wp2_with fail
    go_ret
    exact ⟨rfl, rfl⟩
def NDrop (B Fb Sb Gb Mb Pb C Nb Lb n : Nat) (v : Value) (g up : List Int) (O cl : List Nat) (fr : Nat) (R : Nat → List Nat) (p : Nat) (w : World) (e : Ending) (w' : World) : Prop :=
  e = .returned (.bool true) ∧ Chg (fun k => k = Sb ∨ k = Gb ∨ k = Mb ∨ k = Pb ∨ k = Nb ∨ k = Lb ∨ v.ownBlock = some k) w w' ∧ ∃ v' j, j < n + 1 ∧ p ∈ R j ∧ NodeAt B w' Fb Sb Gb Mb Pb C Nb Lb n v' (g.set p (IntKind.i64.wrap (g.getD p 0 + 1))) up (O.erase p) (cl ++ [p]) fr (PC.updR R j (PC.cut (R j) p)) ∧ FI n up (O.erase p) (cl ++ [p]) fr (PC.updR R j (PC.cut (R j) p)) ∧ (v'.ownBlock = v.ownBlock ∨ ∃ k, v'.ownBlock = some k ∧ w.heap.size ≤ k)
set_option maxRecDepth 100000 in
set_option maxHeartbeats 4000000 in
theorem node_Drop (p : Nat) (h : NodeAt B w Fb Sb Gb Mb Pb C Nb Lb n v g up O cl fr R) (hi : FI n up O cl fr R) (hok : dropOk O R (p : Int) = true) :
    Calls Try.prog 39 #[.pointer (some ⟨Fb, 0, none⟩), .int .i64 (p : Int)] w (NDrop B Fb Sb Gb Mb Pb C Nb Lb n v g up O cl fr R p w) := by
  unfold dropOk at hok
  simp only [Bool.and_eq_true, decide_eq_true_eq] at hok
  obtain ⟨hx, h0⟩ := hok
  have hp := in_ints.1 hx
  have e0 : ((p : Int)).toNat = p := by omega
  rw [e0] at h0
  have hpn := hi.lt hp
  have K1 := node_Is (p : Int) h hi
  rw [decide_eq_true hx] at K1
  replace K1 := Lib.hid K1
  have K2 := chain_Len (p : Int) h.ch
  rw [PC.rowV_in (by omega), h0] at K2
  have K2 : Hid (Calls Try.prog 28 #[.pointer (some ⟨C, 0, none⟩), .int .i64 (p : Int)] w fun e w' => e = .returned (.int .i64 0) ∧ w = w') := Lib.hid K2
  have K3 := chain_Drop (p : Int) h.ch
  have hof := (hi.of (p : Int)).2 hx
  have hdb : PC.dropB (n + 1) R (p : Int) = true := by rw [PC.dropB_ofV]; exact decide_eq_true hof
  rw [hdb] at K3
  obtain ⟨j, hj, hpj, hdr⟩ : ∃ j, j < n + 1 ∧ p ∈ R j ∧ PC.dropR (n + 1) R (p : Int) = PC.updR R j (PC.cut (R j) p) := by
    unfold PC.dropR
    rcases hr : PC.rowOf (n + 1) R (p : Int) with _ | j
    · rw [PC.ofV_none hr] at hof; exact absurd hof (by decide)
    · obtain ⟨a, b, c, _⟩ := PC.rowOf_some hr
      exact ⟨j, a, by simpa using c, rfl⟩
  rw [hdr] at K3
  replace K3 := Lib.hid K3
  have HFI : Hid (FI n up (O.erase p) (cl ++ [p]) fr (PC.updR R j (PC.cut (R j) p))) := Lib.hid (by
    obtain ⟨St, _, hc⟩ := h.ch
    exact hi.drop hc hp hj hpj h0)
  have f1 := h.f1
  have H := Lib.hid h
  have HI := Lib.hid hi
  have HJ := Lib.hid (And.intro hj hpj)
  have hn := h.ne
  obtain ⟨nFbSb, nFbGb, nFbMb, nFbPb, nFbC, nFbNb, nFbLb, nSbGb, nSbMb, nSbPb, nSbC, nSbNb, nSbLb, nGbMb, nGbPb, nGbC, nGbNb, nGbLb, nMbPb, nMbC, nMbNb, nMbLb, nPbC, nPbNb, nPbLb, nCNb, nCLb, nNbLb⟩ := ids_split hn
  clear hn h hi hof hdb hdr hx h0 hj hpj
  have HX := Lib.hid hp
  clear hp e0
  go_enter Try.func39, Try.ntmps39
  go_wp2_with fail
  refine K1.out.mono ?_
  rintro e w1 ⟨rfl, rfl⟩
  go_wp2_with fail
  refine K2.out.mono ?_
  rintro e w1 ⟨rfl, rfl⟩
  go_wp2_with fail
  refine K3.out.mono ?_
  rintro e w1 ⟨rfl, h1, ho⟩
  have e1 : ∀ k, k < w.heap.size → k ≠ Nb → k ≠ Lb → w1.heap[k]? = w.heap[k]? := fun k hk a b => ho.block k a b hk
  have r1 := H.out.row.of_block (e1 _ H.out.row.lt (by first | assumption | exact Ne.symm (by assumption)) (by first | assumption | exact Ne.symm (by assumption)))
  have p1 := H.out.par.of_block (e1 _ H.out.par.lt (by first | assumption | exact Ne.symm (by assumption)) (by first | assumption | exact Ne.symm (by assumption)))
  have s1 : SlotsAt B w1 Sb Gb Mb n v g O cl fr := H.out.sl.of_blocks (fun k hk hh => e1 k hk (by
    rcases hh with rfl | rfl | rfl | h
    · first | assumption | exact Ne.symm (by assumption)
    · first | assumption | exact Ne.symm (by assumption)
    · first | assumption | exact Ne.symm (by assumption)
    · have := (World.ownsRow.lt H.out.sl.own k h).1; have := H.out.lt; omega) (by
    rcases hh with rfl | rfl | rfl | h
    · first | assumption | exact Ne.symm (by assumption)
    · first | assumption | exact Ne.symm (by assumption)
    · first | assumption | exact Ne.symm (by assumption)
    · have := (World.ownsRow.lt H.out.sl.own k h).1; have := H.out.lt; omega))
  have b1 : B ≤ w1.heap.size := by have := H.out.bw; have := ho.size; omega
  have C1 : Chg (fun k => k = Sb ∨ k = Gb ∨ k = Mb ∨ k = Pb ∨ k = Nb ∨ k = Lb ∨ v.ownBlock = some k) w w1 := Chg.of_off ho (.inr (.inr (.inr (.inr (.inl rfl))))) (.inr (.inr (.inr (.inr (.inr (.inl rfl))))))
  have g0 : w1.cell? ⟨Fb, 0, none⟩ = some (.pointer (some ⟨Sb, 0, none⟩)) := by rw [r1.cell]; rfl
  have hrt : rightB O g (p : Int) (g.getD p 0) = true := by unfold rightB; rw [decide_eq_true (in_ints.2 HX.out)]; simp
  have KG : Hid (∀ W, Below w1.heap.size w1 W → Calls Try.prog 113 #[.pointer (some ⟨Sb, 0, none⟩), .int .i64 (p : Int)] W fun e w' => e = .returned (.int .i64 (g.getD p 0)) ∧ W = w') := Lib.hid (fun W hW => slots_Gen_in p (s1.below hW) hpn)
  have KC : Hid (∀ W, Below w1.heap.size w1 W → Calls Try.prog 112 #[.pointer (some ⟨Sb, 0, none⟩), .int .i64 (p : Int), .int .i64 (g.getD p 0)] W (SClose B Sb Gb Mb n v g O cl fr p W)) := Lib.hid (fun W hW => slots_Close p (g.getD p 0) (s1.below hW) HI.out.s hrt (Nat.le_trans b1 hW.size))
  have HFIN : Hid (∀ W w2, Below w1.heap.size w1 W → SClose B Sb Gb Mb n v g O cl fr p W (.returned (.bool true)) w2 → w2.cell? ⟨Fb, 0, none⟩ = some (.pointer (some ⟨Sb, 0, none⟩)) ∧ NDrop B Fb Sb Gb Mb Pb C Nb Lb n v g up O cl fr R p w (.returned (.bool true)) w2) := Lib.hid (fun W w2 hW hcl => by
    obtain ⟨_, v', h2, hc, hv⟩ := hcl
    have rW := r1.keep hW
    have pW := p1.keep hW
    have cW := h1.keep hW
    have e2 : ∀ k, k < W.heap.size → k ≠ Sb → k ≠ Gb → k ≠ Mb → v.ownBlock ≠ some k → w2.heap[k]? = W.heap[k]? := fun k hk a b c d => hc.block k hk (fun h => by
      rcases h with h | h | h | h
      · exact a h
      · exact b h
      · exact c h
      · exact d h)
    have hov : ∀ k, k < B → v.ownBlock ≠ some k := fun k hk e => by have := (World.ownsRow.lt s1.own k e).1; omega
    obtain ⟨l1, l2, l3, l4, l5⟩ := H.out.lt
    have r2 := rW.of_block (e2 _ rW.lt (by first | assumption | exact Ne.symm (by assumption)) (by first | assumption | exact Ne.symm (by assumption)) (by first | assumption | exact Ne.symm (by assumption)) (hov _ l1))
    obtain ⟨z1, z2, z3⟩ := cW.lt1
    refine ⟨by rw [r2.cell]; rfl, rfl, (C1.trans (Chg.of_below hW)).trans (hc.mono (fun k _ h => ?_)), v', j, HJ.out.1, HJ.out.2, ⟨r2, pW.of_block (e2 _ pW.lt (by first | assumption | exact Ne.symm (by assumption)) (by first | assumption | exact Ne.symm (by assumption)) (by first | assumption | exact Ne.symm (by assumption)) (hov _ l2)), H.out.ulen, h2, cW.of_blocks (fun k hk => ?_), H.out.ne, H.out.lt, ?_⟩, HFI.out, ?_⟩
    · rcases h with h | h | h | h
      · exact .inl h
      · exact .inr (.inl h)
      · exact .inr (.inr (.inl h))
      · exact .inr (.inr (.inr (.inr (.inr (.inr h)))))
    · rcases hk with rfl | rfl | rfl
      · exact e2 _ z1 (by first | assumption | exact Ne.symm (by assumption)) (by first | assumption | exact Ne.symm (by assumption)) (by first | assumption | exact Ne.symm (by assumption)) (hov _ l3)
      · exact e2 _ z2 (by first | assumption | exact Ne.symm (by assumption)) (by first | assumption | exact Ne.symm (by assumption)) (by first | assumption | exact Ne.symm (by assumption)) (hov _ l4)
      · exact e2 _ z3 (by first | assumption | exact Ne.symm (by assumption)) (by first | assumption | exact Ne.symm (by assumption)) (by first | assumption | exact Ne.symm (by assumption)) (hov _ l5)
    · have := hW.size; have := hc.size; omega
    · rcases hv with h | ⟨k, a, b⟩
      · exact .inl h
      · exact .inr ⟨k, a, by have := hW.size; have := ho.size; omega⟩)
  have hS : Hid (∀ W : World, Below w1.heap.size w1 W → (fun W : World => W.cell? ⟨Fb, 0, none⟩ = some (.pointer (some ⟨Sb, 0, none⟩))) W) := Lib.hid (fun W hW => (hW.cell r1.lt).trans g0)
  generalize g.getD p 0 = gp at *
  clear h1 ho e1 r1 p1 s1 C1 hrt
  go_wp2_with fail
  refine wp_region_held_drew (S := (fun W : World => W.cell? ⟨Fb, 0, none⟩ = some (.pointer (some ⟨Sb, 0, none⟩)))) (by kernel_rfl) ?_ (fun hHeld => ?_)
  focus ((try dsimp only); first | exact q2 | exact hS.out _ (by repeat (first | exact Below.refl _ _ | assumption | refine bel_drew ?_ | refine bel_drewN ?_ _ | refine bel_trans ?_ (by assumption))))
  refine tk_yes 0 (v := ?_) rfl (by kernel_rfl) (by kernel_rfl) (by kernel_rfl) (fun _ _ _ h => h) (by kernel_rfl) (by assumption) ?_ ?_; rotate_left; (focus (intro w hSw; (try dsimp only at hSw); go_simp; (first | done | (with_reducible rfl)))); (try simp only [Act.put, List.setIfInBounds_toArray, List.set_cons_zero, List.set_cons_succ])
  refine tk_yes 1 (v := ?_) rfl (by kernel_rfl) (by kernel_rfl) (by kernel_rfl) (fun _ _ _ h => h) (by kernel_rfl) (by assumption) ?_ ?_; rotate_left; (focus (intro w hSw; (try dsimp only at hSw); go_simp; (first | done | (with_reducible rfl)))); (try simp only [Act.put, List.setIfInBounds_toArray, List.set_cons_zero, List.set_cons_succ])
  refine tk_yes 2 (v := ?_) rfl (by kernel_rfl) (by kernel_rfl) (by kernel_rfl) (fun _ _ _ h => h) (by kernel_rfl) (by assumption) ?_ ?_; rotate_left; (focus (intro w hSw; (try dsimp only at hSw); go_simp; (first | done | (with_reducible rfl)))); (try simp only [Act.put, List.setIfInBounds_toArray, List.set_cons_zero, List.set_cons_succ])
  refine tk_yes 3 (v := ?_) rfl (by kernel_rfl) (by kernel_rfl) (by kernel_rfl) (fun _ _ _ h => h) (by kernel_rfl) (by assumption) ?_ ?_; rotate_left; (focus (intro w hSw; (try dsimp only at hSw); go_simp; (first | done | (with_reducible rfl)))); (try simp only [Act.put, List.setIfInBounds_toArray, List.set_cons_zero, List.set_cons_succ])
  refine tk_yes 4 (v := ?_) rfl (by kernel_rfl) (by kernel_rfl) (by kernel_rfl) (fun _ _ _ h => h) (by kernel_rfl) (by assumption) ?_ ?_; rotate_left; (focus (intro w hSw; (try dsimp only at hSw); go_simp; (first | done | (with_reducible rfl)))); (try simp only [Act.put, List.setIfInBounds_toArray, List.set_cons_zero, List.set_cons_succ])
  refine tk_yes 5 (v := ?_) rfl (by kernel_rfl) (by kernel_rfl) (by kernel_rfl) (fun _ _ _ h => h) (by kernel_rfl) (by assumption) ?_ ?_; rotate_left; (focus (intro w hSw; (try dsimp only at hSw); go_simp; (first | done | (with_reducible rfl)))); (try simp only [Act.put, List.setIfInBounds_toArray, List.set_cons_zero, List.set_cons_succ])
  refine tk_yes 6 (v := ?_) rfl (by kernel_rfl) (by kernel_rfl) (by kernel_rfl) (fun _ _ _ h => h) (by kernel_rfl) (by assumption) ?_ ?_; rotate_left; (focus (intro w hSw; (try dsimp only at hSw); go_simp; (first | done | (with_reducible rfl)))); (try simp only [Act.put, List.setIfInBounds_toArray, List.set_cons_zero, List.set_cons_succ])
  refine tk_yes 7 (v := ?_) rfl (by kernel_rfl) (by kernel_rfl) (by kernel_rfl) (fun _ _ _ h => h) (by kernel_rfl) (by assumption) ?_ ?_; rotate_left; (focus (intro w hSw; (try dsimp only at hSw); go_simp; (first | done | (with_reducible rfl)))); (try simp only [Act.put, List.setIfInBounds_toArray, List.set_cons_zero, List.set_cons_succ])
  refine tk_yes 8 (v := ?_) rfl (by kernel_rfl) (by kernel_rfl) (by kernel_rfl) (fun _ _ _ h => h) (by kernel_rfl) (by assumption) ?_ ?_; rotate_left; (focus (intro w hSw; (try dsimp only at hSw); go_simp; (first | done | (with_reducible rfl)))); (try simp only [Act.put, List.setIfInBounds_toArray, List.set_cons_zero, List.set_cons_succ])
  refine tk_yes 9 (v := ?_) rfl (by kernel_rfl) (by kernel_rfl) (by kernel_rfl) (fun _ _ _ h => h) (by kernel_rfl) (by assumption) ?_ ?_; rotate_left; (focus (intro w hSw; (try dsimp only at hSw); go_simp; (first | done | (with_reducible rfl)))); (try simp only [Act.put, List.setIfInBounds_toArray, List.set_cons_zero, List.set_cons_succ])
  refine tk_call 10 rfl (by kernel_rfl) (by kernel_rfl) (fun KW hKW => ?_); go_simp; go_at_call 113; refine (KG.out _ (by repeat (first | exact Below.refl _ _ | assumption | refine bel_drew ?_ | refine bel_drewN ?_ _ | refine bel_trans ?_ (by assumption)))).mono ?_; rintro e u1 ⟨rfl, rfl⟩; refine hKW.out _ _ ?_ (fun hHeld => ?_); (focus ((try dsimp only); first | exact q2 | exact hS.out _ (by repeat (first | exact Below.refl _ _ | assumption | refine bel_drew ?_ | refine bel_drewN ?_ _ | refine bel_trans ?_ (by assumption))))); clear hKW KW; (try simp only [Act.put, List.setIfInBounds_toArray, List.set_cons_zero, List.set_cons_succ])
  refine tk_call 11 rfl (by kernel_rfl) (by kernel_rfl) (fun KW hKW => ?_); go_simp; go_at_call 112; refine (KC.out _ (by repeat (first | exact Below.refl _ _ | assumption | refine bel_drew ?_ | refine bel_drewN ?_ _ | refine bel_trans ?_ (by assumption)))).mono ?_; rintro e u2 hcl; obtain rfl : e = .returned (.bool true) := hcl.1; have hcl2 := fun hb => HFIN.out _ _ hb hcl; obtain ⟨q2, HND⟩ := hcl2 (by repeat (first | exact Below.refl _ _ | assumption | refine bel_drew ?_ | refine bel_drewN ?_ _ | refine bel_trans ?_ (by assumption))); clear hcl2; replace HND := Lib.hid HND; clear hcl; refine hKW.out _ _ ?_ (fun hHeld => ?_); (focus ((try dsimp only); first | exact q2 | exact hS.out _ (by repeat (first | exact Below.refl _ _ | assumption | refine bel_drew ?_ | refine bel_drewN ?_ _ | refine bel_trans ?_ (by assumption))))); clear hKW KW; (try simp only [Act.put, List.setIfInBounds_toArray, List.set_cons_zero, List.set_cons_succ])
  refine tk_yes 12 (v := ?_) rfl (by kernel_rfl) (by kernel_rfl) (by kernel_rfl) (fun _ _ _ h => h) (by kernel_rfl) (by assumption) ?_ ?_; rotate_left; (focus (intro w hSw; (try dsimp only at hSw); go_simp; (first | done | (with_reducible rfl)))); (try simp only [Act.put, List.setIfInBounds_toArray, List.set_cons_zero, List.set_cons_succ])
  refine wpAnyH_done (by kernel_rfl) ?_ _
  go_wp2_with fail
  exact bodyPost_ret (v := .bool true) (by simp [results, Try.results39, go_sem]) rfl HND.out

end Go.Proofs.Ytdhcmnbajkpjiaa
/-
  A forest: New; a forest that New did not give.
-/
namespace Go.Proofs.Ytdhcmnbajkpjiaa
open Go.RowKit
open Go.Maps
set_option linter.unusedVariables false
set_option linter.unusedSimpArgs false
attribute [local go_sem] drewN_alloc drewN_setCell
variable {B : Nat} {w : World} {Fb Sb Gb Mb Pb C Nb Lb n : Nat} {v : Value} {g up : List Int} {O cl : List Nat} {fr : Nat} {R : Nat → List Nat}

/-- A forest without nodes, of new memory. -/
def MadeForest (n : Nat) (w : World) (e : Ending) (w' : World) : Prop :=
  ∃ Fb Sb Gb Mb Pb C Nb Lb, e = .returned (.pointer (some ⟨Fb, 0, none⟩)) ∧ NodeAt w'.heap.size w' Fb Sb Gb Mb Pb C Nb Lb n (.slice none 0 0) (List.replicate n 0) (List.replicate n 0) [] [] 0 PC.none0 ∧ Below w.heap.size w w' ∧
    (w.heap.size ≤ Fb ∧ w.heap.size ≤ Sb ∧ w.heap.size ≤ Gb ∧ w.heap.size ≤ Mb ∧ w.heap.size ≤ Pb ∧ w.heap.size ≤ C ∧ w.heap.size ≤ Nb ∧ w.heap.size ≤ Lb)
theorem FI.none (n : Nat) (hn : n ≤ 4096) : FI n (List.replicate n 0) [] [] 0 PC.none0 :=
  ⟨⟨List.nodup_nil, List.nodup_nil, fun _ h => by simp at h, fun _ h => by simp at h, Nat.zero_le _, by omega⟩, fun x i _ hx => by simp [PC.none0] at hx, fun x hx => by simp at hx, fun x i _ hx => by simp [PC.none0] at hx, hn⟩
theorem node_New_no (x : Int) (w : World) (hx : x < 0 ∨ 4096 < x) : Calls Try.prog 36 #[.int .i64 x] w fun e w' => e = .returned (.pointer none) ∧ w = w' := by
  by_cases h0 : x < 0
  · have q : decide (x < 0) = true := decide_eq_true h0
    go_enter Try.func36, Try.ntmps36
    go_wp2_with fail
    go_ret
    exact ⟨rfl, rfl⟩
  · have q : decide (x < 0) = false := decide_eq_false h0
    have q2 : decide (4096 < x) = true := decide_eq_true (hx.resolve_left h0)
    have q3 := hx.resolve_left h0
    clear hx
    go_enter Try.func36, Try.ntmps36
    go_wp2_with fail
    go_ret
    exact ⟨rfl, rfl⟩
theorem forest_made {w W : World} {Sb Gb Mb Pb C Nb Lb n : Nat} (hs : ∀ B', (Sb < B' ∧ Gb < B' ∧ Mb < B') → SlotsAt B' W Sb Gb Mb n (.slice none 0 0) (List.replicate n 0) [] [] 0) (hc : ChainRows W C Nb Lb n (n + 1) PC.none0) (hp : RowAt W Pb 3 ((List.replicate n (0 : Int)).map (Value.int .i64)))
    (hn : [Sb, Gb, Mb, Pb, C, Nb, Lb].Nodup) (hb : Below w.heap.size w W) (hge : w.heap.size ≤ Sb ∧ w.heap.size ≤ Gb ∧ w.heap.size ≤ Mb ∧ w.heap.size ≤ Pb ∧ w.heap.size ≤ C ∧ w.heap.size ≤ Nb ∧ w.heap.size ≤ Lb) (hlt : Sb < W.heap.size ∧ Gb < W.heap.size ∧ Mb < W.heap.size) :
    MadeForest n w (.returned (.pointer (some ⟨W.heap.size, 0, none⟩))) (W.alloc (.cells #[.pointer (some ⟨Sb, 0, none⟩), .pointer (some ⟨C, 0, none⟩), .slice (some ⟨Pb, 0, none⟩) n n] 77)) := by
  obtain ⟨c1, c2, c3⟩ := hc.lt1
  have pl := hp.lt
  have hsz : (W.alloc (.cells #[.pointer (some ⟨Sb, 0, none⟩), .pointer (some ⟨C, 0, none⟩), .slice (some ⟨Pb, 0, none⟩) n n] 77)).heap.size = W.heap.size + 1 := by simp
  have hbA : Below W.heap.size W (W.alloc (.cells #[.pointer (some ⟨Sb, 0, none⟩), .pointer (some ⟨C, 0, none⟩), .slice (some ⟨Pb, 0, none⟩) n n] 77)) := bel_alloc (Below.refl _ _) _
  refine ⟨W.heap.size, Sb, Gb, Mb, Pb, C, Nb, Lb, rfl, ⟨RowAt.new W 77 _, hp.keep hbA, by simp, (hs _ (by omega)).below hbA, hc.keep hbA, ?_, by omega, Nat.le_refl _⟩, bel_trans' hb hbA hb.size, ?_⟩
  · refine List.nodup_cons.2 ⟨fun hm => ?_, hn⟩
    simp only [List.mem_cons, List.not_mem_nil, or_false] at hm
    omega
  · have := hb.size; omega
theorem nodup7 {a b c d e f g : Nat} (h1 : a ≠ b ∧ a ≠ c ∧ a ≠ d ∧ a ≠ e ∧ a ≠ f ∧ a ≠ g) (h2 : b ≠ c ∧ b ≠ d ∧ b ≠ e ∧ b ≠ f ∧ b ≠ g) (h3 : c ≠ d ∧ c ≠ e ∧ c ≠ f ∧ c ≠ g) (h4 : d ≠ e ∧ d ≠ f ∧ d ≠ g) (h5 : e ≠ f ∧ e ≠ g) (h6 : f ≠ g) : [a, b, c, d, e, f, g].Nodup := by
  simp only [List.nodup_cons, List.mem_cons, List.not_mem_nil, or_false, not_or, not_false_eq_true, List.nodup_nil, and_true]
  exact ⟨h1, h2, h3, h4, h5, h6⟩
def ALLOCF (Sb C Pb n : Nat) : Obj := .cells #[.pointer (some ⟨Sb, 0, none⟩), .pointer (some ⟨C, 0, none⟩), .slice (some ⟨Pb, 0, none⟩) n n] 77
theorem undrew {w u : World} (h : Below w.drew.heap.size w.drew u) : Below w.heap.size w u := ⟨h.os, h.tape, h.output, h.size, h.block⟩
theorem made1 {n : Nat} {w u1 u5 : World} {Z : Array Value} {C Nb Lb : Nat} (HZ : RowAt (u5.alloc (.cells Z 3)) u5.heap.size 3 ((List.replicate n (0 : Int)).map (Value.int .i64))) (z1 : u1.heap.size = w.heap.size + 3)
    (h1 : ∀ B', w.heap.size + 3 ≤ B' → SlotsAt B' u1 (w.heap.size + 2) w.heap.size (w.heap.size + 1) n (.slice none 0 0) (List.replicate n 0) [] [] 0) (b1 : Below w.heap.size w u1) (h5 : ChainRows u5 C Nb Lb n (n + 1) PC.none0) (b5 : Below u1.heap.size u1 u5)
    (x1 : u1.heap.size ≤ C) (x2 : u1.heap.size ≤ Nb) (x3 : u1.heap.size ≤ Lb) : MadeForest n w (.returned (.pointer (some ⟨u5.heap.size + 1, 0, none⟩))) ((u5.alloc (.cells Z 3)).alloc (ALLOCF (w.heap.size + 2) C u5.heap.size n)) := by
  obtain ⟨y1, y2, y3⟩ := h5.lt1
  obtain ⟨a1, a2, a3⟩ : C ≠ Nb ∧ C ≠ Lb ∧ Nb ≠ Lb := by obtain ⟨St, hSt, _⟩ := id h5; exact ⟨hSt.aCN, hSt.aCL, hSt.aNL⟩
  have zz := b5.size
  have hA : Below u5.heap.size u5 (u5.alloc (.cells Z 3)) := bel_alloc (Below.refl _ _) _
  have e : (u5.alloc (.cells Z 3)).heap.size = u5.heap.size + 1 := by simp
  have K := forest_made (w := w) (W := u5.alloc (.cells Z 3)) (Pb := u5.heap.size) (fun B' hB' => ((h1 B' (by omega)).below b5).below hA) (h5.keep hA) HZ
    (nodup7 (by omega) (by omega) (by omega) (by omega) (by omega) (by omega)) (bel_trans' (bel_trans b1 b5) hA (by omega)) (by omega) (by omega)
  rw [e] at K
  exact K
theorem made2 {n : Nat} {w u1 u5 : World} {Z : Array Value} {C Nb Lb : Nat} (HZ : RowAt (u1.alloc (.cells Z 3)) u1.heap.size 3 ((List.replicate n (0 : Int)).map (Value.int .i64))) (z1 : u1.heap.size = w.heap.size + 3)
    (h1 : ∀ B', w.heap.size + 3 ≤ B' → SlotsAt B' u1 (w.heap.size + 2) w.heap.size (w.heap.size + 1) n (.slice none 0 0) (List.replicate n 0) [] [] 0) (b1 : Below w.heap.size w u1) (h5 : ChainRows u5 C Nb Lb n (n + 1) PC.none0) (b5 : Below (u1.alloc (.cells Z 3)).heap.size (u1.alloc (.cells Z 3)) u5)
    (x1 : (u1.alloc (.cells Z 3)).heap.size ≤ C) (x2 : (u1.alloc (.cells Z 3)).heap.size ≤ Nb) (x3 : (u1.alloc (.cells Z 3)).heap.size ≤ Lb) : MadeForest n w (.returned (.pointer (some ⟨u5.heap.size, 0, none⟩))) (u5.alloc (ALLOCF (w.heap.size + 2) C (w.heap.size + 3) n)) := by
  obtain ⟨y1, y2, y3⟩ := h5.lt1
  obtain ⟨a1, a2, a3⟩ : C ≠ Nb ∧ C ≠ Lb ∧ Nb ≠ Lb := by obtain ⟨St, hSt, _⟩ := id h5; exact ⟨hSt.aCN, hSt.aCL, hSt.aNL⟩
  have zz := b5.size
  have hA : Below u1.heap.size u1 (u1.alloc (.cells Z 3)) := bel_alloc (Below.refl _ _) _
  have e : (u1.alloc (.cells Z 3)).heap.size = u1.heap.size + 1 := by simp
  rw [e] at zz x1 x2 x3
  have hp := HZ.keep b5
  rw [z1] at hp
  exact forest_made (w := w) (W := u5) (Pb := w.heap.size + 3) (fun B' hB' => ((h1 B' (by omega)).below hA).below b5) h5 hp
    (nodup7 (by omega) (by omega) (by omega) (by omega) (by omega) (by omega)) (bel_trans (bel_trans b1 hA) b5) (by omega) (by omega)
theorem made3 {n : Nat} {w u1 u5 : World} {Z : Array Value} {C Nb Lb : Nat} (HZ : RowAt (w.alloc (.cells Z 3)) w.heap.size 3 ((List.replicate n (0 : Int)).map (Value.int .i64))) (z1 : u1.heap.size = (w.alloc (.cells Z 3)).heap.size + 3)
    (h1 : ∀ B', (w.alloc (.cells Z 3)).heap.size + 3 ≤ B' → SlotsAt B' u1 ((w.alloc (.cells Z 3)).heap.size + 2) (w.alloc (.cells Z 3)).heap.size ((w.alloc (.cells Z 3)).heap.size + 1) n (.slice none 0 0) (List.replicate n 0) [] [] 0) (b1 : Below (w.alloc (.cells Z 3)).heap.size (w.alloc (.cells Z 3)) u1) (h5 : ChainRows u5 C Nb Lb n (n + 1) PC.none0) (b5 : Below u1.heap.size u1 u5)
    (x1 : u1.heap.size ≤ C) (x2 : u1.heap.size ≤ Nb) (x3 : u1.heap.size ≤ Lb) : MadeForest n w (.returned (.pointer (some ⟨u5.heap.size, 0, none⟩))) (u5.alloc (ALLOCF (w.heap.size + 1 + 2) C w.heap.size n)) := by
  obtain ⟨y1, y2, y3⟩ := h5.lt1
  obtain ⟨a1, a2, a3⟩ : C ≠ Nb ∧ C ≠ Lb ∧ Nb ≠ Lb := by obtain ⟨St, hSt, _⟩ := id h5; exact ⟨hSt.aCN, hSt.aCL, hSt.aNL⟩
  have zz := b5.size
  have hA : Below w.heap.size w (w.alloc (.cells Z 3)) := bel_alloc (Below.refl _ _) _
  have e : (w.alloc (.cells Z 3)).heap.size = w.heap.size + 1 := by simp
  have hp := (HZ.keep b1).keep b5
  rw [e] at z1 h1
  exact forest_made (w := w) (W := u5) (Pb := w.heap.size) (fun B' hB' => (h1 B' (by omega)).below b5) h5 hp
    (nodup7 (by omega) (by omega) (by omega) (by omega) (by omega) (by omega)) (bel_trans (bel_trans hA b1) b5) (by omega) (by omega)
set_option maxRecDepth 100000 in
set_option maxHeartbeats 8000000 in
theorem node_New (n : Nat) (w : World) (hn : n ≤ 4096) : Calls Try.prog 36 #[.int .i64 (n : Int)] w (MadeForest n w) := by
  have hinfo : (Try.prog.info? 3).map (fun i => (i.zero, i.size, i.bytes)) = some (some (.int .i64 0), 1, 8) := by kernel_rfl
  have hmk := run_make_row' (P := Try.prog) 27 3 (.int .i64 0) 8 Try.underlying27 hinfo rfl .i64 .i64 n (by omega) (by omega)
  rw [made_ints] at hmk
  obtain ⟨Z, hZ⟩ : ∃ Z, ((List.replicate n (0 : Int)).map (Value.int .i64)).toArray = Z := ⟨_, rfl⟩
  rw [hZ] at hmk
  have HZ : Hid (∀ W : World, RowAt (W.alloc (.cells Z 3)) W.heap.size 3 ((List.replicate n (0 : Int)).map (Value.int .i64))) := Lib.hid (fun W => by rw [← hZ]; exact RowAt.new W _ _)
  have KS := Lib.hid (fun W => slots_New n W (by omega))
  have KC : Hid (∀ W, Calls Try.prog 18 #[.int .i64 ((n : Int) + 1), .int .i64 (n : Int)] W (MadeChain W n (n + 1))) := Lib.hid (fun W => by
    have K := chain_New_yes (n + 1) n W (by omega) (by omega)
    have e : ((n + 1 : Nat) : Int) = (n : Int) + 1 := by omega
    rwa [e] at K)
  have q1 : decide ((n : Int) < 0) = false := decide_eq_false (by omega)
  have q1' : ¬ (n : Int) < 0 := by omega
  have q2 : decide ((4096 : Int) < (n : Int)) = false := decide_eq_false (by omega)
  have q2' : ¬ (4096 : Int) < (n : Int) := by omega
  have wn : IntKind.i64.wrap ((n : Int) + 1) = (n : Int) + 1 := by rw [IntKind.wrap_i64]; omega
  clear hinfo hZ
  go_enter Try.func36, Try.ntmps36
  go_wp2_with fail
  refine wp_region_held_drew (S := (fun W : World => W.heap.size = W.heap.size)) (by kernel_rfl) ?_ (fun hHeld => ?_)
  focus ((try dsimp only); all_goals trivial)
  refine tk_yes 0 (v := ?_) rfl (by kernel_rfl) (by kernel_rfl) (by kernel_rfl) (fun _ _ _ h => h) (by kernel_rfl) (by first | assumption | trivial) ?_ ?_; rotate_left; (focus (intro w hSw; (try dsimp only at hSw); go_simp; (first | done | (with_reducible rfl)))); (try simp only [Act.put, List.setIfInBounds_toArray, List.set_cons_zero, List.set_cons_succ])
  refine tk_yes 2 (v := ?_) rfl (by kernel_rfl) (by kernel_rfl) (by kernel_rfl) (fun _ _ _ h => h) (by kernel_rfl) (by first | assumption | trivial) ?_ ?_; rotate_left; (focus (intro w hSw; (try dsimp only at hSw); go_simp; (first | done | (with_reducible rfl)))); (try simp only [Act.put, List.setIfInBounds_toArray, List.set_cons_zero, List.set_cons_succ])
  refine tk_yes 3 (v := ?_) rfl (by kernel_rfl) (by kernel_rfl) (by kernel_rfl) (fun _ _ _ h => h) (by kernel_rfl) (by first | assumption | trivial) ?_ ?_; rotate_left; (focus (intro w hSw; (try dsimp only at hSw); go_simp; (first | done | (with_reducible rfl)))); (try simp only [Act.put, List.setIfInBounds_toArray, List.set_cons_zero, List.set_cons_succ])
  refine tk_yes 4 (v := ?_) rfl (by kernel_rfl) (by kernel_rfl) (by kernel_rfl) (fun _ _ _ h => h) (by kernel_rfl) (by first | assumption | trivial) ?_ ?_; rotate_left; (focus (intro w hSw; (try dsimp only at hSw); go_simp; (first | done | (with_reducible rfl)))); (try simp only [Act.put, List.setIfInBounds_toArray, List.set_cons_zero, List.set_cons_succ])
  refine tk_yes 6 (v := ?_) rfl (by kernel_rfl) (by kernel_rfl) (by kernel_rfl) (fun _ _ _ h => h) (by kernel_rfl) (by first | assumption | trivial) ?_ ?_; rotate_left; (focus (intro w hSw; (try dsimp only at hSw); go_simp; (first | done | (with_reducible rfl)))); (try simp only [Act.put, List.setIfInBounds_toArray, List.set_cons_zero, List.set_cons_succ])
  refine tk_two 1 7 rfl rfl (by kernel_rfl) (by kernel_rfl) (by kernel_rfl) (fun KW hKW => ?_) (fun KW hKW => ?_)
  · go_simp; go_at_call 108; refine (KS.out _).mono ?_; rintro e u1 ⟨rfl, z1, h1, b1⟩; refine hKW.out _ _ ?_ (fun hHeld => ?_); (focus ((try dsimp only); all_goals trivial)); clear hKW KW; (try simp only [Act.put, List.setIfInBounds_toArray, List.set_cons_zero, List.set_cons_succ])
    refine tk_two 5 7 rfl rfl (by kernel_rfl) (by kernel_rfl) (by kernel_rfl) (fun KW hKW => ?_) (fun KW hKW => ?_)
    · go_simp; go_at_call 18; refine (KC.out _).mono ?_; rintro e u5 ⟨C, Nb, Lb, rfl, h5, b5, x1, x2, x3⟩; refine hKW.out _ _ ?_ (fun hHeld => ?_); (focus ((try dsimp only); all_goals trivial)); clear hKW KW; (try simp only [Act.put, List.setIfInBounds_toArray, List.set_cons_zero, List.set_cons_succ])
      refine tk_call 7 rfl (by kernel_rfl) (by kernel_rfl) (fun KW hKW => ?_); go_simp; refine hKW.out _ _ ?_ (fun hHeld => ?_); (focus ((try dsimp only); all_goals trivial)); clear hKW KW; (try simp only [Act.put, List.setIfInBounds_toArray, List.set_cons_zero, List.set_cons_succ])
      refine tk_yes 8 (v := ?_) rfl (by kernel_rfl) (by kernel_rfl) (by kernel_rfl) (fun _ _ _ h => h) (by kernel_rfl) (by first | assumption | trivial) ?_ ?_; rotate_left; (focus (intro w hSw; (try dsimp only at hSw); go_simp; (first | done | (with_reducible rfl)))); (try simp only [Act.put, List.setIfInBounds_toArray, List.set_cons_zero, List.set_cons_succ])
      refine tk_call 9 rfl (by kernel_rfl) (by kernel_rfl) (fun KW hKW => ?_); go_simp; refine hKW.out _ _ ?_ (fun hHeld => ?_); (focus ((try dsimp only); all_goals trivial)); clear hKW KW; (try simp only [Act.put, List.setIfInBounds_toArray, List.set_cons_zero, List.set_cons_succ])
      refine tk_yes 10 (v := ?_) rfl (by kernel_rfl) (by kernel_rfl) (by kernel_rfl) (fun _ _ _ h => h) (by kernel_rfl) (by first | assumption | trivial) ?_ ?_; rotate_left; (focus (intro w hSw; (try dsimp only at hSw); go_simp; (first | done | (with_reducible rfl)))); (try simp only [Act.put, List.setIfInBounds_toArray, List.set_cons_zero, List.set_cons_succ])
      refine wpAnyH_done (by kernel_rfl) ?_ _
      go_wp2_with fail
      exact bodyPost_ret (v := .pointer (some ⟨u5.heap.size + 1, 0, none⟩)) (by simp [results, Try.results36, go_sem]) rfl (made1 (HZ.out u5) z1 h1 (undrew b1) h5 b5 x1 x2 x3)
    · go_simp; refine hKW.out _ _ ?_ (fun hHeld => ?_); (focus ((try dsimp only); all_goals trivial)); clear hKW KW; (try simp only [Act.put, List.setIfInBounds_toArray, List.set_cons_zero, List.set_cons_succ])
      refine tk_call 5 rfl (by kernel_rfl) (by kernel_rfl) (fun KW hKW => ?_); go_simp; go_at_call 18; refine (KC.out _).mono ?_; rintro e u5 ⟨C, Nb, Lb, rfl, h5, b5, x1, x2, x3⟩; refine hKW.out _ _ ?_ (fun hHeld => ?_); (focus ((try dsimp only); all_goals trivial)); clear hKW KW; (try simp only [Act.put, List.setIfInBounds_toArray, List.set_cons_zero, List.set_cons_succ])
      refine tk_yes 8 (v := ?_) rfl (by kernel_rfl) (by kernel_rfl) (by kernel_rfl) (fun _ _ _ h => h) (by kernel_rfl) (by first | assumption | trivial) ?_ ?_; rotate_left; (focus (intro w hSw; (try dsimp only at hSw); go_simp; (first | done | (with_reducible rfl)))); (try simp only [Act.put, List.setIfInBounds_toArray, List.set_cons_zero, List.set_cons_succ])
      refine tk_call 9 rfl (by kernel_rfl) (by kernel_rfl) (fun KW hKW => ?_); go_simp; refine hKW.out _ _ ?_ (fun hHeld => ?_); (focus ((try dsimp only); all_goals trivial)); clear hKW KW; (try simp only [Act.put, List.setIfInBounds_toArray, List.set_cons_zero, List.set_cons_succ])
      refine tk_yes 10 (v := ?_) rfl (by kernel_rfl) (by kernel_rfl) (by kernel_rfl) (fun _ _ _ h => h) (by kernel_rfl) (by first | assumption | trivial) ?_ ?_; rotate_left; (focus (intro w hSw; (try dsimp only at hSw); go_simp; (first | done | (with_reducible rfl)))); (try simp only [Act.put, List.setIfInBounds_toArray, List.set_cons_zero, List.set_cons_succ])
      refine wpAnyH_done (by kernel_rfl) ?_ _
      go_wp2_with fail
      exact bodyPost_ret (v := .pointer (some ⟨u5.heap.size, 0, none⟩)) (by simp [results, Try.results36, go_sem]) rfl (made2 (HZ.out u1) z1 h1 (undrew b1) h5 b5 x1 x2 x3)
  · go_simp; refine hKW.out _ _ ?_ (fun hHeld => ?_); (focus ((try dsimp only); all_goals trivial)); clear hKW KW; (try simp only [Act.put, List.setIfInBounds_toArray, List.set_cons_zero, List.set_cons_succ])
    refine tk_call 1 rfl (by kernel_rfl) (by kernel_rfl) (fun KW hKW => ?_); go_simp; go_at_call 108; refine (KS.out _).mono ?_; rintro e u1 ⟨rfl, z1, h1, b1⟩; refine hKW.out _ _ ?_ (fun hHeld => ?_); (focus ((try dsimp only); all_goals trivial)); clear hKW KW; (try simp only [Act.put, List.setIfInBounds_toArray, List.set_cons_zero, List.set_cons_succ])
    refine tk_call 5 rfl (by kernel_rfl) (by kernel_rfl) (fun KW hKW => ?_); go_simp; go_at_call 18; refine (KC.out _).mono ?_; rintro e u5 ⟨C, Nb, Lb, rfl, h5, b5, x1, x2, x3⟩; refine hKW.out _ _ ?_ (fun hHeld => ?_); (focus ((try dsimp only); all_goals trivial)); clear hKW KW; (try simp only [Act.put, List.setIfInBounds_toArray, List.set_cons_zero, List.set_cons_succ])
    refine tk_yes 8 (v := ?_) rfl (by kernel_rfl) (by kernel_rfl) (by kernel_rfl) (fun _ _ _ h => h) (by kernel_rfl) (by first | assumption | trivial) ?_ ?_; rotate_left; (focus (intro w hSw; (try dsimp only at hSw); go_simp; (first | done | (with_reducible rfl)))); (try simp only [Act.put, List.setIfInBounds_toArray, List.set_cons_zero, List.set_cons_succ])
    refine tk_call 9 rfl (by kernel_rfl) (by kernel_rfl) (fun KW hKW => ?_); go_simp; refine hKW.out _ _ ?_ (fun hHeld => ?_); (focus ((try dsimp only); all_goals trivial)); clear hKW KW; (try simp only [Act.put, List.setIfInBounds_toArray, List.set_cons_zero, List.set_cons_succ])
    refine tk_yes 10 (v := ?_) rfl (by kernel_rfl) (by kernel_rfl) (by kernel_rfl) (fun _ _ _ h => h) (by kernel_rfl) (by first | assumption | trivial) ?_ ?_; rotate_left; (focus (intro w hSw; (try dsimp only at hSw); go_simp; (first | done | (with_reducible rfl)))); (try simp only [Act.put, List.setIfInBounds_toArray, List.set_cons_zero, List.set_cons_succ])
    refine wpAnyH_done (by kernel_rfl) ?_ _
    go_wp2_with fail
    exact bodyPost_ret (v := .pointer (some ⟨u5.heap.size, 0, none⟩)) (by simp [results, Try.results36, go_sem]) rfl (made3 (HZ.out w) z1 h1 (undrew b1) h5 b5 x1 x2 x3)

end Go.Proofs.Ytdhcmnbajkpjiaa
/-
  A forest that New did not give has no nodes.
-/
namespace Go.Proofs.Ytdhcmnbajkpjiaa
open Go.RowKit
open Go.Maps
set_option linter.unusedVariables false
set_option linter.unusedSimpArgs false
attribute [local go_sem] drewN_alloc drewN_setCell

def NoF (w : World) (A : Option Addr) : Prop := A = none ∨ ∃ Z, A = some ⟨Z, 0, none⟩ ∧ w.cell? ⟨Z, 1, none⟩ = some (.pointer none)
theorem nof_is {w : World} {A : Option Addr} (h : NoF w A) : Calls Try.prog 115 #[.pointer A] w fun e w' => e = .returned (.bool false) ∧ w = w' := by
  rcases h with rfl | ⟨Z, rfl, c⟩
  · go_enter Try.func115, Try.ntmps115
    go_wp2_with fail
    go_ret
    exact ⟨rfl, rfl⟩
  · go_enter Try.func115, Try.ntmps115
    go_wp2_with fail
    go_ret
    exact ⟨rfl, rfl⟩
theorem nof_Is (x : Int) {w : World} {A : Option Addr} (h : NoF w A) : Calls Try.prog 48 #[.pointer A, .int .i64 x] w fun e w' => e = .returned (.bool false) ∧ w = w' := by
  have K := Lib.hid (nof_is h)
  clear h
  go_enter Try.func48, Try.ntmps48
  go_wp2_with fail
  refine K.out.mono ?_
  rintro e w1 ⟨rfl, rfl⟩
  go_wp2_with fail
  exact bodyPost_ret (v := .bool false) (by simp [results, Try.results48, go_sem]) rfl ⟨rfl, rfl⟩
theorem nof_Root {w : World} {A : Option Addr} (h : NoF w A) : Calls Try.prog 41 #[.pointer A] w fun e w' => e = .returned (.tuple #[.int .i64 0, .int .i64 0, .bool false]) ∧ w = w' := by
  have K := Lib.hid (nof_is h)
  clear h
  go_enter Try.func41, Try.ntmps41
  go_wp2_with fail
  refine K.out.mono ?_
  rintro e w1 ⟨rfl, rfl⟩
  go_wp2_with fail
  exact bodyPost_ret (v := .tuple #[.int .i64 0, .int .i64 0, .bool false]) (by simp [results, Try.results41, go_sem]) rfl ⟨rfl, rfl⟩
theorem nof_Next (x : Int) {w : World} {A : Option Addr} (h : NoF w A) : Calls Try.prog 54 #[.pointer A, .int .i64 x] w fun e w' => e = .returned (.int .i64 (-1)) ∧ w = w' := by
  have K := Lib.hid (nof_is h)
  clear h
  go_enter Try.func54, Try.ntmps54
  go_wp2_with fail
  refine K.out.mono ?_
  rintro e w1 ⟨rfl, rfl⟩
  go_wp2_with fail
  exact bodyPost_ret (v := .int .i64 (-1)) (by simp [results, Try.results54, go_sem]) rfl ⟨rfl, rfl⟩
theorem nof_Right (x y : Int) {w : World} {A : Option Addr} (h : NoF w A) : Calls Try.prog 52 #[.pointer A, .int .i64 x, .int .i64 y] w fun e w' => e = .returned (.bool false) ∧ w = w' := by
  have K := Lib.hid (nof_is h)
  clear h
  go_enter Try.func52, Try.ntmps52
  go_wp2_with fail
  refine K.out.mono ?_
  rintro e w1 ⟨rfl, rfl⟩
  go_wp2_with fail
  exact bodyPost_ret (v := .bool false) (by simp [results, Try.results52, go_sem]) rfl ⟨rfl, rfl⟩
theorem nof_Roots {w : World} {A : Option Addr} (h : NoF w A) : Calls Try.prog 46 #[.pointer A] w fun e w' => e = .returned (.slice none 0 0) ∧ w = w' := by
  have K := Lib.hid (nof_is h)
  clear h
  go_enter Try.func46, Try.ntmps46
  go_wp2_with fail
  refine K.out.mono ?_
  rintro e w1 ⟨rfl, rfl⟩
  go_wp2_with fail
  exact bodyPost_ret (v := .slice none 0 0) (by simp [results, Try.results46, go_sem]) rfl ⟨rfl, rfl⟩
theorem nof_Len {w : World} {A : Option Addr} (h : NoF w A) : Calls Try.prog 44 #[.pointer A] w fun e w' => e = .returned (.int .i64 0) ∧ w = w' := by
  have K := Lib.hid (nof_is h)
  clear h
  go_enter Try.func44, Try.ntmps44
  go_wp2_with fail
  refine K.out.mono ?_
  rintro e w1 ⟨rfl, rfl⟩
  go_wp2_with fail
  exact bodyPost_ret (v := .int .i64 0) (by simp [results, Try.results44, go_sem]) rfl ⟨rfl, rfl⟩
theorem nof_Child (x : Int) {w : World} {A : Option Addr} (h : NoF w A) : Calls Try.prog 40 #[.pointer A, .int .i64 x] w fun e w' => e = .returned (.tuple #[.int .i64 0, .int .i64 0, .bool false]) ∧ w = w' := by
  have K := Lib.hid (nof_Is x h)
  clear h
  go_enter Try.func40, Try.ntmps40
  go_wp2_with fail
  refine K.out.mono ?_
  rintro e w1 ⟨rfl, rfl⟩
  go_wp2_with fail
  exact bodyPost_ret (v := .tuple #[.int .i64 0, .int .i64 0, .bool false]) (by simp [results, Try.results40, go_sem]) rfl ⟨rfl, rfl⟩
theorem nof_Drop (x : Int) {w : World} {A : Option Addr} (h : NoF w A) : Calls Try.prog 39 #[.pointer A, .int .i64 x] w fun e w' => e = .returned (.bool false) ∧ w = w' := by
  have K := Lib.hid (nof_Is x h)
  clear h
  go_enter Try.func39, Try.ntmps39
  go_wp2_with fail
  refine K.out.mono ?_
  rintro e w1 ⟨rfl, rfl⟩
  go_wp2_with fail
  exact bodyPost_ret (v := .bool false) (by simp [results, Try.results39, go_sem]) rfl ⟨rfl, rfl⟩
theorem nof_Parent (x : Int) {w : World} {A : Option Addr} (h : NoF w A) : Calls Try.prog 49 #[.pointer A, .int .i64 x] w fun e w' => e = .returned (.int .i64 (-1)) ∧ w = w' := by
  have K := Lib.hid (nof_Is x h)
  clear h
  go_enter Try.func49, Try.ntmps49
  go_wp2_with fail
  refine K.out.mono ?_
  rintro e w1 ⟨rfl, rfl⟩
  go_wp2_with fail
  exact bodyPost_ret (v := .int .i64 (-1)) (by simp [results, Try.results49, go_sem]) rfl ⟨rfl, rfl⟩
theorem nof_First (x : Int) {w : World} {A : Option Addr} (h : NoF w A) : Calls Try.prog 53 #[.pointer A, .int .i64 x] w fun e w' => e = .returned (.int .i64 (-1)) ∧ w = w' := by
  have K := Lib.hid (nof_Is x h)
  clear h
  go_enter Try.func53, Try.ntmps53
  go_wp2_with fail
  refine K.out.mono ?_
  rintro e w1 ⟨rfl, rfl⟩
  go_wp2_with fail
  exact bodyPost_ret (v := .int .i64 (-1)) (by simp [results, Try.results53, go_sem]) rfl ⟨rfl, rfl⟩
theorem nof_Children (x : Int) {w : World} {A : Option Addr} (h : NoF w A) : Calls Try.prog 51 #[.pointer A, .int .i64 x] w fun e w' => e = .returned (.slice none 0 0) ∧ w = w' := by
  have K := Lib.hid (nof_Is x h)
  clear h
  go_enter Try.func51, Try.ntmps51
  go_wp2_with fail
  refine K.out.mono ?_
  rintro e w1 ⟨rfl, rfl⟩
  go_wp2_with fail
  exact bodyPost_ret (v := .slice none 0 0) (by simp [results, Try.results51, go_sem]) rfl ⟨rfl, rfl⟩
def HasRel (w : World) (xs : List Int) (x : Int) (n : Nat) (i : Value) (wr : World) : Prop := ∃ k : Nat, k ≤ n ∧ i = .int .i64 k ∧ (∀ j, j < k → xs.getD j 0 ≠ x) ∧ wr = w
theorem base_Has {A : Option Addr} {n : Nat} {xs : List Int} (c : Nat) (x : Int) {w : World} (h : IntsAt w A n xs) : Calls Try.prog 50 #[.slice A n c, .int .i64 x] w fun e w' => e = .returned (.bool (decide (x ∈ xs))) ∧ w = w' := by
  have hl := h.1
  have hn := h.2.1
  have HC := Lib.hid h.2.2
  clear h
  go_enter Try.func50, Try.ntmps50
  go_wp2_with fail
  go_loopw [5] (fun i wr => HasRel w xs x n i wr) (fun i _ => n - (intOf i).toNat)
  case atStart => exact ⟨0, Nat.zero_le _, rfl, fun j hj => absurd hj (by omega), rfl⟩
  case round =>
    obtain ⟨k, hk, rfl, hno, rfl⟩ := hrel
    have HN := Lib.hid hno
    clear hno
    by_cases hlt : (k : Int) < (n : Int)
    · obtain ⟨b, off, rfl, hb, hc⟩ := HC.out (by omega)
      have xk := hc k (by omega)
      have HNX : Hid (xs.getD k 0 ≠ x → ∀ j, j < k + 1 → xs.getD j 0 ≠ x) := Lib.hid (fun hq j hj => by
        rcases Nat.lt_or_ge j k with h1 | h1
        · exact HN.out j h1
        · obtain rfl : j = k := by omega
          exact hq)
      have HYX : Hid (xs.getD k 0 = x → true = decide (x ∈ xs)) := Lib.hid (fun hq => (decide_eq_true (by
        have e : xs.getD k 0 = xs[k]'(by omega) := by simp [List.getD, show k < xs.length by omega]
        rw [← hq, e]
        exact List.getElem_mem _)).symm)
      obtain ⟨y, hy⟩ : ∃ y, xs.getD k 0 = y := ⟨_, rfl⟩
      rw [hy] at xk HNX HYX
      have j0 : (0 : Int) ≤ (k : Int) := by omega
      have j1 : (k : Int) < (n : Int) := hlt
      clear hc hy
      by_cases hq : y = x
      · have q : (y == x) = true := by simpa using hq
        have HE := Lib.hid (HYX.out hq)
        subst hq
        go_wp2_with fail
        go_ret
        exact ⟨ret_bool HE.out, rfl⟩
      · have q : (y == x) = false := by simpa using hq
        have HE := Lib.hid (HNX.out hq)
        go_wp2_with fail
        go_roundw
        case rel => exact ⟨k + 1, by omega, by go_num, HE.out, rfl⟩
        case measure => simp [intOf] <;> omega
    · have HE : Hid (false = decide (x ∈ xs)) := Lib.hid (decide_eq_false (fun hm => by
        obtain ⟨j, hj, e⟩ := List.mem_iff_getElem.1 hm
        exact HN.out j (by omega) (by simp [List.getD, hj, e]))).symm
      go_wp2_with fail
      go_ret
      exact ⟨ret_bool HE.out, rfl⟩
end Go.Proofs.Ytdhcmnbajkpjiaa
/-
  One hypothesis for a forest that a call made; the example of the chapter.
-/
namespace Go.Proofs.Ytdhcmnbajkpjiaa
open Go.RowKit
open Go.Maps
set_option linter.unusedVariables false
set_option linter.unusedSimpArgs false
attribute [local go_sem] drewN_alloc drewN_setCell

structure FSt where
  (g up : List Int) (O cl : List Nat) (fr : Nat) (R : Nat → List Nat)
def FSt.new (n : Nat) : FSt := ⟨List.replicate n 0, List.replicate n 0, [], [], 0, PC.none0⟩
def FSt.add (S : FSt) (n i : Nat) (q : Int) : FSt :=
  match pickP S.cl S.fr n with
  | none => S
  | some (p, cl', fr') => ⟨S.g, S.up.set p q, p :: S.O, cl', fr', PC.updR S.R i (S.R i ++ [p])⟩
def FSt.told (S : FSt) (n : Nat) : Value :=
  match pickP S.cl S.fr n with
  | none => .tuple #[.int .i64 0, .int .i64 0, .bool false]
  | some (p, _, _) => .tuple #[.int .i64 (p : Int), .int .i64 (S.g.getD p 0), .bool true]
def FSt.child (S : FSt) (n : Nat) (x : Int) : FSt := if x ∈ ints S.O then S.add n x.toNat x else S
def FSt.toldC (S : FSt) (n : Nat) (x : Int) : Value := if x ∈ ints S.O then S.told n else .tuple #[.int .i64 0, .int .i64 0, .bool false]
def FSt.row (S : FSt) (n p : Nat) : Nat := if S.up.getD p 0 = -1 then n else (S.up.getD p 0).toNat
def FSt.drop (S : FSt) (n : Nat) (x : Int) : FSt :=
  if dropOk S.O S.R x = true then ⟨S.g.set x.toNat (IntKind.i64.wrap (S.g.getD x.toNat 0 + 1)), S.up, S.O.erase x.toNat, S.cl ++ [x.toNat], S.fr, PC.updR S.R (S.row n x.toNat) (PC.cut (S.R (S.row n x.toNat)) x.toNat)⟩ else S
/-- A forest made since w0, of the blocks 'own'; all that was there at w0 is as it was. -/
structure ForestOver (w0 w : World) (own : Nat → Prop) (Fb n : Nat) (S : FSt) : Prop where
  ex : ∃ B Sb Gb Mb Pb C Nb Lb v, NodeAt B w Fb Sb Gb Mb Pb C Nb Lb n v S.g S.up S.O S.cl S.fr S.R ∧ (own Fb ∧ own Sb ∧ own Gb ∧ own Mb ∧ own Pb ∧ own C ∧ own Nb ∧ own Lb) ∧ ∀ k, v.ownBlock = some k → own k
  fi : FI n S.up S.O S.cl S.fr S.R
  fresh : ∀ k, own k → w0.heap.size ≤ k ∧ k < w.heap.size
  below : Below w0.heap.size w0 w
/-- What a call does that changes the forest. -/
def OverStep (w0 w : World) (own : Nat → Prop) (Fb n : Nat) (S : FSt) (w' : World) : Prop :=
  ∃ own', ForestOver w0 w' own' Fb n S ∧ Chg own w w' ∧ ∀ k, own' k → own k ∨ w.heap.size ≤ k
variable {w0 w w' : World} {own : Nat → Prop} {Fb n : Nat} {S : FSt}
theorem ForestOver.keep (h : ForestOver w0 w own Fb n S) (hb : Below w.heap.size w w') : ForestOver w0 w' own Fb n S := by
  obtain ⟨⟨B, Sb, Gb, Mb, Pb, C, Nb, Lb, v, h1, h2, h3⟩, h4, h5, h6⟩ := h
  exact ⟨⟨B, Sb, Gb, Mb, Pb, C, Nb, Lb, v, h1.below hb, h2, h3⟩, h4, fun k hk => ⟨(h5 k hk).1, Nat.lt_of_lt_of_le (h5 k hk).2 hb.size⟩, bel_trans h6 hb⟩
theorem over_same (h : ForestOver w0 w own Fb n S) (hb : Below w.heap.size w w') : OverStep w0 w own Fb n S w' :=
  ⟨own, h.keep hb, Chg.of_below hb, fun k hk => .inl hk⟩
theorem overf_New (n : Nat) (w : World) (hn : n ≤ 4096) : Calls Try.prog 36 #[.int .i64 (n : Int)] w fun e w' => ∃ Fb own, e = .returned (.pointer (some ⟨Fb, 0, none⟩)) ∧ ForestOver w w' own Fb n (FSt.new n) := by
  refine (node_New n w hn).mono ?_
  rintro e w' ⟨Fb, Sb, Gb, Mb, Pb, C, Nb, Lb, rfl, h1, hb, h2, h3, h4, h5, h6, h7, h8, h9⟩
  have hl := h1.lt
  have sl := h1.sl
  refine ⟨Fb, fun k => w.heap.size ≤ k ∧ k < w'.heap.size, rfl, ⟨_, Sb, Gb, Mb, Pb, C, Nb, Lb, _, h1, ⟨⟨h2, hl.1⟩, ⟨h3, sl.lt1⟩, ⟨h4, sl.lt2⟩, ⟨h5, sl.lt3⟩, ⟨h6, hl.2.1⟩, ⟨h7, hl.2.2.1⟩, ⟨h8, hl.2.2.2.1⟩, ⟨h9, hl.2.2.2.2⟩⟩, fun k hk => ?_⟩, FI.none n hn, fun k hk => hk, hb⟩
  simp [Value.ownBlock] at hk
theorem over_nadd {i : Nat} {q : Int} {p : Nat} {cl' : List Nat} {fr' : Nat} {Sb Gb Mb Pb C Nb Lb B : Nat} {v : Value} {e : Ending} (h : ForestOver w0 w own Fb n S) (h1 : NodeAt B w Fb Sb Gb Mb Pb C Nb Lb n v S.g S.up S.O S.cl S.fr S.R)
    (ho : own Fb ∧ own Sb ∧ own Gb ∧ own Mb ∧ own Pb ∧ own C ∧ own Nb ∧ own Lb) (hv : ∀ k, v.ownBlock = some k → own k) (hp : pickP S.cl S.fr n = some (p, cl', fr')) (hil : i < n + 1) (hq : (i = n ∧ q = -1) ∨ (i < n ∧ i ∈ S.O ∧ q = (i : Int))) (ha : NAdd B Fb Sb Gb Mb Pb C Nb Lb n v S.g S.up S.O S.R i q p cl' fr' w e w') :
    e = .returned (S.told n) ∧ OverStep w0 w own Fb n (S.add n i q) w' := by
  obtain ⟨rfl, hc, v', h2, hv'⟩ := ha
  have e1 : S.told n = .tuple #[.int .i64 (p : Int), .int .i64 (S.g.getD p 0), .bool true] := by unfold FSt.told; rw [hp]
  have e2 : S.add n i q = ⟨S.g, S.up.set p q, p :: S.O, cl', fr', PC.updR S.R i (S.R i ++ [p])⟩ := by unfold FSt.add; rw [hp]
  have hc' : Chg own w w' := hc.mono (fun k _ hk => by
    rcases hk with rfl | rfl | rfl | rfl | rfl
    · exact ho.2.1
    · exact ho.2.2.2.1
    · exact ho.2.2.2.2.1
    · exact ho.2.2.2.2.2.2.1
    · exact ho.2.2.2.2.2.2.2)
  rw [e1, e2]
  refine ⟨rfl, own, ⟨⟨B, Sb, Gb, Mb, Pb, C, Nb, Lb, v', h2, ho, fun k hk => hv k (hv' ▸ hk)⟩, h.fi.add hp h1.ulen hil hq, fun k hk => ⟨(h.fresh k hk).1, Nat.lt_of_lt_of_le (h.fresh k hk).2 hc.size⟩, h.below.trans (hc'.below h.below.size (fun k hk => (h.fresh k hk).1))⟩, hc', fun k hk => .inl hk⟩
theorem overf_Root (h : ForestOver w0 w own Fb n S) : Calls Try.prog 41 #[.pointer (some ⟨Fb, 0, none⟩)] w fun e w' => e = .returned (S.told n) ∧ OverStep w0 w own Fb n (S.add n n (-1)) w' := by
  obtain ⟨B, Sb, Gb, Mb, Pb, C, Nb, Lb, v, h1, ho, hv⟩ := h.ex
  rcases hp : pickP S.cl S.fr n with _ | ⟨p, cl', fr'⟩
  · refine (node_Root_no h1 hp).mono ?_
    rintro e w' ⟨rfl, hb⟩
    have e1 : S.told n = .tuple #[.int .i64 0, .int .i64 0, .bool false] := by unfold FSt.told; rw [hp]
    have e2 : S.add n n (-1) = S := by unfold FSt.add; rw [hp]
    rw [e1, e2]
    exact ⟨rfl, over_same h hb⟩
  · exact (node_Root h1 h.fi hp).mono fun e w' ha => over_nadd h h1 ho hv hp (by omega) (.inl ⟨rfl, rfl⟩) ha
theorem overf_Child (x : Int) (h : ForestOver w0 w own Fb n S) : Calls Try.prog 40 #[.pointer (some ⟨Fb, 0, none⟩), .int .i64 x] w fun e w' => e = .returned (S.toldC n x) ∧ OverStep w0 w own Fb n (S.child n x) w' := by
  obtain ⟨B, Sb, Gb, Mb, Pb, C, Nb, Lb, v, h1, ho, hv⟩ := h.ex
  by_cases hx : x ∈ ints S.O
  · have e1 : S.toldC n x = S.told n := by unfold FSt.toldC; rw [if_pos hx]
    have e2 : S.child n x = S.add n x.toNat x := by unfold FSt.child; rw [if_pos hx]
    rw [e1, e2]
    rcases hp : pickP S.cl S.fr n with _ | ⟨p, cl', fr'⟩
    · refine (node_Child_no x h1 h.fi (.inr hp)).mono ?_
      rintro e w' ⟨rfl, hb⟩
      have e1 : S.told n = .tuple #[.int .i64 0, .int .i64 0, .bool false] := by unfold FSt.told; rw [hp]
      have e2 : S.add n x.toNat x = S := by unfold FSt.add; rw [hp]
      rw [e1, e2]
      exact ⟨rfl, over_same h hb⟩
    · obtain ⟨i, hi, rfl⟩ : ∃ p : Nat, p ∈ S.O ∧ x = p := by
        unfold ints at hx
        obtain ⟨p, hp, e⟩ := List.mem_map.1 hx
        exact ⟨p, hp, e.symm⟩
      have hl := h.fi.lt hi
      have e0 : ((i : Int)).toNat = i := by omega
      rw [e0]
      exact (node_Child i h1 h.fi hi hp).mono fun e w' ha => over_nadd h h1 ho hv hp (by omega) (.inr ⟨hl, hi, rfl⟩) ha
  · refine (node_Child_no x h1 h.fi (.inl hx)).mono ?_
    rintro e w' ⟨rfl, hb⟩
    have e1 : S.toldC n x = .tuple #[.int .i64 0, .int .i64 0, .bool false] := by unfold FSt.toldC; rw [if_neg hx]
    have e2 : S.child n x = S := by unfold FSt.child; rw [if_neg hx]
    rw [e1, e2]
    exact ⟨rfl, over_same h hb⟩
theorem overf_Drop (x : Int) (h : ForestOver w0 w own Fb n S) : Calls Try.prog 39 #[.pointer (some ⟨Fb, 0, none⟩), .int .i64 x] w fun e w' => e = .returned (.bool (dropOk S.O S.R x)) ∧ OverStep w0 w own Fb n (S.drop n x) w' := by
  obtain ⟨B, Sb, Gb, Mb, Pb, C, Nb, Lb, v, h1, ho, hv⟩ := h.ex
  by_cases hx : dropOk S.O S.R x = true
  · have e2 : S.drop n x = ⟨S.g.set x.toNat (IntKind.i64.wrap (S.g.getD x.toNat 0 + 1)), S.up, S.O.erase x.toNat, S.cl ++ [x.toNat], S.fr, PC.updR S.R (S.row n x.toNat) (PC.cut (S.R (S.row n x.toNat)) x.toNat)⟩ := by unfold FSt.drop; rw [if_pos hx]
    rw [e2, hx]
    obtain ⟨p, hpO, rfl⟩ : ∃ p : Nat, p ∈ S.O ∧ x = p := by
      unfold dropOk at hx
      simp only [Bool.and_eq_true, decide_eq_true_eq] at hx
      have hm := hx.1
      unfold ints at hm
      obtain ⟨p, hp, e⟩ := List.mem_map.1 hm
      exact ⟨p, hp, e.symm⟩
    have e0 : ((p : Int)).toNat = p := by omega
    rw [e0]
    refine (node_Drop p h1 h.fi hx).mono ?_
    rintro e w' ⟨rfl, hc, v', j, hj, hpj, h2, h3, hv'⟩
    have ej : j = S.row n p := by
      unfold FSt.row
      rcases h.fi.pa p j hj hpj with ⟨a, b⟩ | ⟨a, b, c⟩
      · rw [if_pos b, a]
      · rw [c, if_neg (by omega)]; omega
    subst ej
    have hc' : Chg own w w' := hc.mono (fun k _ hk => by
      rcases hk with rfl | rfl | rfl | rfl | rfl | rfl | hk
      · exact ho.2.1
      · exact ho.2.2.1
      · exact ho.2.2.2.1
      · exact ho.2.2.2.2.1
      · exact ho.2.2.2.2.2.2.1
      · exact ho.2.2.2.2.2.2.2
      · exact hv k hk)
    have hvl : ∀ k, v'.ownBlock = some k → k < w'.heap.size := fun k hk => (World.ownsRow.lt h2.sl.own k hk).2
    refine ⟨rfl, fun k => own k ∨ (w.heap.size ≤ k ∧ k < w'.heap.size), ⟨⟨B, Sb, Gb, Mb, Pb, C, Nb, Lb, v', h2, ⟨.inl ho.1, .inl ho.2.1, .inl ho.2.2.1, .inl ho.2.2.2.1, .inl ho.2.2.2.2.1, .inl ho.2.2.2.2.2.1, .inl ho.2.2.2.2.2.2.1, .inl ho.2.2.2.2.2.2.2⟩, fun k hk => ?_⟩, h3, fun k hk => ?_, h.below.trans (hc'.below h.below.size (fun k hk => (h.fresh k hk).1))⟩, hc', fun k hk => hk.imp id And.left⟩
    · rcases hv' with e | ⟨k', e, h5⟩
      · exact .inl (hv k (e ▸ hk))
      · rw [e] at hk
        cases hk
        exact .inr ⟨h5, hvl k e⟩
    · rcases hk with hk | hk
      · exact ⟨(h.fresh k hk).1, Nat.lt_of_lt_of_le (h.fresh k hk).2 hc.size⟩
      · exact ⟨Nat.le_trans h.below.size hk.1, hk.2⟩
  · have e2 : S.drop n x = S := by unfold FSt.drop; rw [if_neg hx]
    have hx' : dropOk S.O S.R x = false := by simpa using hx
    rw [e2, hx']
    refine (node_Drop_no x h1 h.fi hx').mono ?_
    rintro e w' ⟨rfl, rfl⟩
    exact ⟨rfl, over_same h (Below.refl _ _)⟩
theorem overf_Is (x : Int) (h : ForestOver w0 w own Fb n S) : Calls Try.prog 48 #[.pointer (some ⟨Fb, 0, none⟩), .int .i64 x] w fun e w' => e = .returned (.bool (decide (x ∈ ints S.O))) ∧ w = w' := by
  obtain ⟨B, Sb, Gb, Mb, Pb, C, Nb, Lb, v, h1, ho, hv⟩ := h.ex
  exact node_Is x h1 h.fi
theorem overf_Parent (x : Int) (h : ForestOver w0 w own Fb n S) : Calls Try.prog 49 #[.pointer (some ⟨Fb, 0, none⟩), .int .i64 x] w fun e w' => e = .returned (.int .i64 (parV S.O S.up x)) ∧ w = w' := by
  obtain ⟨B, Sb, Gb, Mb, Pb, C, Nb, Lb, v, h1, ho, hv⟩ := h.ex
  exact node_Parent x h1 h.fi
theorem overf_Children (x : Int) (h : ForestOver w0 w own Fb n S) : Calls Try.prog 51 #[.pointer (some ⟨Fb, 0, none⟩), .int .i64 x] w (GivesInts w (ints (kidV S.O S.R x))) := by
  obtain ⟨B, Sb, Gb, Mb, Pb, C, Nb, Lb, v, h1, ho, hv⟩ := h.ex
  exact node_Children x h1 h.fi
theorem overf_Roots (h : ForestOver w0 w own Fb n S) : Calls Try.prog 46 #[.pointer (some ⟨Fb, 0, none⟩)] w (GivesInts w (ints (S.R n))) := by
  obtain ⟨B, Sb, Gb, Mb, Pb, C, Nb, Lb, v, h1, ho, hv⟩ := h.ex
  exact node_Roots h1
theorem overf_Len (h : ForestOver w0 w own Fb n S) : Calls Try.prog 44 #[.pointer (some ⟨Fb, 0, none⟩)] w fun e w' => e = .returned (.int .i64 (S.O.length : Int)) ∧ w = w' := by
  obtain ⟨B, Sb, Gb, Mb, Pb, C, Nb, Lb, v, h1, ho, hv⟩ := h.ex
  exact node_Len h1
end Go.Proofs.Ytdhcmnbajkpjiaa
/-
  The example of the chapter of forests.
-/
namespace Go.Proofs.Ytdhcmnbajkpjiaa
open Go.RowKit
open Go.Maps
set_option linter.unusedVariables false
set_option linter.unusedSimpArgs false
attribute [local go_sem] drewN_alloc drewN_setCell

set_option maxHeartbeats 1000000 in
theorem law37_works (w : World) : Calls Try.prog 35 #[] w fun e w' => e = .returned (.bool true) ∧ Below w.heap.size w w' := by
  have A1 := fun (W : World) (own : Nat → Prop) (Fb : Nat) (h : ForestOver w W own Fb 5 (FSt.new 5)) => overf_Root h
  rw [show FSt.told (FSt.new 5) 5 = .tuple #[.int .i64 0, .int .i64 0, .bool true] by rfl] at A1
  have A2 := fun (W : World) (own : Nat → Prop) (Fb : Nat) (h : ForestOver w W own Fb 5 (FSt.add (FSt.new 5) 5 5 (-1))) => overf_Child 0 h
  rw [show FSt.toldC (FSt.add (FSt.new 5) 5 5 (-1)) 5 0 = .tuple #[.int .i64 1, .int .i64 0, .bool true] by rfl] at A2
  have A3 := fun (W : World) (own : Nat → Prop) (Fb : Nat) (h : ForestOver w W own Fb 5 (FSt.child (FSt.add (FSt.new 5) 5 5 (-1)) 5 0)) => overf_Child 0 h
  rw [show FSt.toldC (FSt.child (FSt.add (FSt.new 5) 5 5 (-1)) 5 0) 5 0 = .tuple #[.int .i64 2, .int .i64 0, .bool true] by rfl] at A3
  have A4 := fun (W : World) (own : Nat → Prop) (Fb : Nat) (h : ForestOver w W own Fb 5 (FSt.child (FSt.child (FSt.add (FSt.new 5) 5 5 (-1)) 5 0) 5 0)) => overf_Drop 0 h
  rw [show dropOk (FSt.O (FSt.child (FSt.child (FSt.add (FSt.new 5) 5 5 (-1)) 5 0) 5 0)) (FSt.R (FSt.child (FSt.child (FSt.add (FSt.new 5) 5 5 (-1)) 5 0) 5 0)) 0 = false by decide +kernel] at A4
  have A5 := fun (W : World) (own : Nat → Prop) (Fb : Nat) (h : ForestOver w W own Fb 5 (FSt.drop (FSt.child (FSt.child (FSt.add (FSt.new 5) 5 5 (-1)) 5 0) 5 0) 5 0)) => overf_Drop 1 h
  rw [show dropOk (FSt.O (FSt.drop (FSt.child (FSt.child (FSt.add (FSt.new 5) 5 5 (-1)) 5 0) 5 0) 5 0)) (FSt.R (FSt.drop (FSt.child (FSt.child (FSt.add (FSt.new 5) 5 5 (-1)) 5 0) 5 0) 5 0)) 1 = true by decide +kernel] at A5
  obtain ⟨S, hS⟩ : ∃ S, (FSt.drop (FSt.drop (FSt.child (FSt.child (FSt.add (FSt.new 5) 5 5 (-1)) 5 0) 5 0) 5 0) 5 1) = S := ⟨_, rfl⟩
  have v1 : ints (kidV S.O S.R 0) = [2] := by rw [← hS]; decide +kernel
  have v2 : parV S.O S.up 2 = 0 := by rw [← hS]; decide +kernel
  have v3 : S.O.length = 2 := by rw [← hS]; decide +kernel
  rw [hS] at A5
  have B1 := fun (W : World) (own : Nat → Prop) (Fb : Nat) (h : ForestOver w W own Fb 5 S) => overf_Children 0 h
  have B2 := fun (W : World) (own : Nat → Prop) (Fb : Nat) (h : ForestOver w W own Fb 5 S) => overf_Parent 2 h
  have B3 := fun (W : World) (own : Nat → Prop) (Fb : Nat) (h : ForestOver w W own Fb 5 S) => overf_Len h
  rw [v1] at B1
  rw [v2] at B2
  rw [v3] at B3
  have N := Lib.hid (overf_New 5 w (by omega))
  replace A1 := Lib.hid A1
  replace A2 := Lib.hid A2
  replace A3 := Lib.hid A3
  replace A4 := Lib.hid A4
  replace A5 := Lib.hid A5
  replace B1 := Lib.hid B1
  replace B2 := Lib.hid B2
  replace B3 := Lib.hid B3
  clear v1 v2 v3 hS
  go_enter Try.func35, Try.ntmps35
  go_wp2_with fail
  refine N.out.mono ?_
  rintro e w1 ⟨Fb, o1, rfl, h1⟩
  replace h1 := Lib.hid h1
  go_wp2_with fail
  refine (A1.out _ _ _ h1.out).mono ?_
  rintro e w2 ⟨rfl, o2, h2, -⟩
  replace h2 := Lib.hid h2
  go_wp2_with fail
  refine (A2.out _ _ _ h2.out).mono ?_
  rintro e w3 ⟨rfl, o3, h3, -⟩
  replace h3 := Lib.hid h3
  go_wp2_with fail
  refine (A3.out _ _ _ h3.out).mono ?_
  rintro e w4 ⟨rfl, o4, h4, -⟩
  replace h4 := Lib.hid h4
  go_wp2_with fail
  refine (A4.out _ _ _ h4.out).mono ?_
  rintro e w5 ⟨rfl, o5, h5, -⟩
  replace h5 := Lib.hid h5
  go_wp2_with fail
  refine (A5.out _ _ _ h5.out).mono ?_
  rintro e w6 ⟨rfl, o6, h6, -⟩
  replace h6 := Lib.hid h6
  go_wp2_with fail
  refine (B1.out _ _ _ h6.out).mono ?_
  rintro e w7 ⟨A, m, c, rfl, hA, hb⟩
  replace h7 := Lib.hid (h6.out.keep hb)
  replace hA := Lib.hid hA
  clear hb
  go_wp2_with fail
  refine (base_SameInts c 1 (hA.out.1.keep (bel_alloc (Below.refl _ _) _)) (ints_one _ _ 2)).mono ?_
  rintro e w8 ⟨rfl, hb⟩
  have h8 := Lib.hid (h7.out.keep (bel_trans (bel_alloc (Below.refl _ _) _) hb))
  clear hb
  go_wp2_with fail
  refine (B2.out _ _ _ h8.out).mono ?_
  rintro e w9 ⟨rfl, rfl⟩
  go_wp2_with fail
  refine (B3.out _ _ _ h8.out).mono ?_
  rintro e w9 ⟨rfl, rfl⟩
  go_wp2_with fail
  go_ret
  exact ⟨rfl, h8.out.below⟩
end Go.Proofs.Ytdhcmnbajkpjiaa
/-
  Each open place is in one list; the lists have all open places together.
-/
namespace Go.Proofs.Ytdhcmnbajkpjiaa
open Go.RowKit
open Go.Maps
set_option linter.unusedVariables false
set_option linter.unusedSimpArgs false
attribute [local go_sem] drewN_alloc drewN_setCell

def catR (R : Nat → List Nat) : Nat → List Nat
  | 0 => []
  | k + 1 => catR R k ++ R k
def sumKids (O : List Nat) (R : Nat → List Nat) : Nat → Nat
  | 0 => 0
  | k + 1 => sumKids O R k + (kidV O R (k : Int)).length
def cntO (O : List Nat) : Nat → Nat
  | 0 => 0
  | k + 1 => cntO O k + (if (k : Int) ∈ ints O then 1 else 0)
theorem catR_mem {R : Nat → List Nat} {x : Nat} : ∀ {k : Nat}, x ∈ catR R k ↔ ∃ i, i < k ∧ x ∈ R i
  | 0 => ⟨fun h => by simp [catR] at h, fun ⟨i, h, _⟩ => by omega⟩
  | k + 1 => by
    unfold catR
    rw [List.mem_append, catR_mem]
    constructor
    · rintro (⟨i, h, hx⟩ | hx)
      · exact ⟨i, by omega, hx⟩
      · exact ⟨k, by omega, hx⟩
    · rintro ⟨i, h, hx⟩
      rcases Nat.lt_or_ge i k with h1 | h1
      · exact .inl ⟨i, h1, hx⟩
      · obtain rfl : i = k := by omega
        exact .inr hx
theorem catR_nodup {n l : Nat} {St : CS} {R : Nat → List Nat} (hc : PC.Inv n l St R) : ∀ k, k ≤ l → (catR R k).Nodup
  | 0, _ => List.nodup_nil
  | k + 1, h => by
    unfold catR
    refine List.nodup_append.2 ⟨catR_nodup hc k (by omega), hc.nd k (by omega), fun a ha b hb e => ?_⟩
    subst e
    obtain ⟨i, hi, hx⟩ := catR_mem.1 ha
    have := hc.one (by omega) (by omega) hx hb
    omega
variable {n : Nat} {up : List Int} {O cl : List Nat} {fr : Nat} {R : Nat → List Nat} {St : CS}
theorem kid_row (hi : FI n up O cl fr R) {j : Nat} (hj : j < n) : kidV O R (j : Int) = R j := by
  unfold kidV
  by_cases h : (j : Int) ∈ ints O
  · rw [if_pos h]; rfl
  · rw [if_neg h]
    rcases hr : R j with _ | ⟨x, t⟩
    · rfl
    · rcases hi.pa x j (by omega) (by rw [hr]; exact List.mem_cons_self) with ⟨a, _⟩ | ⟨_, b, _⟩
      · omega
      · exact absurd (in_ints.2 b) h
theorem sum_cat (hi : FI n up O cl fr R) : ∀ k, k ≤ n → sumKids O R k = (catR R k).length
  | 0, _ => rfl
  | k + 1, h => by
    unfold sumKids catR
    rw [sum_cat hi k (by omega), kid_row hi (by omega), List.length_append]
theorem sum_all (hi : FI n up O cl fr R) (hc : PC.Inv n (n + 1) St R) : (R n).length + sumKids O R n = O.length := by
  have h1 := sum_cat hi n (Nat.le_refl _)
  have h2 : (catR R (n + 1)).Perm O := (List.perm_ext_iff_of_nodup (catR_nodup hc (n + 1) (Nat.le_refl _)) hi.s.o1).2 (fun x => ⟨fun hx => by
    obtain ⟨i, h, hx⟩ := catR_mem.1 hx
    exact hi.i1 x i h hx, fun hx => catR_mem.2 (hi.i2 x hx)⟩)
  have h3 := h2.length_eq
  unfold catR at h3
  rw [List.length_append] at h3
  omega
theorem sum_mono {O : List Nat} {R : Nat → List Nat} {k m : Nat} (h : k ≤ m) : sumKids O R k ≤ sumKids O R m := by
  induction m with
  | zero => obtain rfl : k = 0 := by omega
            exact Nat.le_refl _
  | succ m ih =>
    rcases Nat.lt_or_ge k (m + 1) with h1 | h1
    · have := ih (by omega)
      have e : sumKids O R (m + 1) = sumKids O R m + (kidV O R (m : Int)).length := rfl
      omega
    · obtain rfl : k = m + 1 := by omega
      exact Nat.le_refl _
theorem cnt_filter (O : List Nat) : ∀ k, cntO O k = ((List.range k).filter (fun x : Nat => decide ((x : Int) ∈ ints O))).length
  | 0 => rfl
  | k + 1 => by
    unfold cntO
    rw [List.range_succ, List.filter_append, List.length_append, cnt_filter O k]
    congr 1
    by_cases h : (k : Int) ∈ ints O
    · rw [if_pos h, List.filter_cons_of_pos (by simpa using h)]; rfl
    · rw [if_neg h, List.filter_cons_of_neg (by simpa using h)]; rfl
theorem cnt_le (O : List Nat) (k : Nat) : cntO O k ≤ k := by
  rw [cnt_filter]
  exact Nat.le_trans (List.length_filter_le _ _) (by simp)
theorem cnt_all (hi : FI n up O cl fr R) : cntO O n = O.length := by
  rw [cnt_filter]
  refine (List.Perm.length_eq ((List.perm_ext_iff_of_nodup (List.nodup_range.filter _) hi.s.o1).2 (fun x => ?_)))
  rw [List.mem_filter, List.mem_range]
  exact ⟨fun h => in_ints.1 (of_decide_eq_true h.2), fun h => ⟨hi.lt h, decide_eq_true (in_ints.2 h)⟩⟩
theorem once_up (hi : FI n up O cl fr R) {p : Nat} (hp : p ∈ O) : (parV O up (p : Int) = -1 ∧ p ∈ R n) ∨ ∃ i : Nat, parV O up (p : Int) = (i : Int) ∧ i ∈ O ∧ p ∈ kidV O R (i : Int) := by
  have e : parV O up (p : Int) = up.getD p 0 := by unfold parV; rw [if_pos (in_ints.2 hp)]; rfl
  obtain ⟨i, hil, hx⟩ := hi.i2 p hp
  rw [e]
  rcases hi.pa p i hil hx with ⟨rfl, b⟩ | ⟨a, b, c⟩
  · exact .inl ⟨b, hx⟩
  · exact .inr ⟨i, c, b, by rw [kid_row hi a]; exact hx⟩
end Go.Proofs.Ytdhcmnbajkpjiaa
/-
  Slices of bytes that read as lists.
-/
namespace Go.Proofs.Ytdhcmnbajkpjiaa
open Go.RowKit
set_option linter.unusedVariables false

/-- The slice value of length n at A reads as xs, bytes. -/
def BytesAt (w : World) (A : Option Addr) (n : Nat) (xs : List Int) : Prop :=
  xs.length = n ∧ n ≤ 9223372036854775807 ∧ (∀ x ∈ xs, 0 ≤ x ∧ x < 256) ∧ (0 < n → ∃ b off, A = some ⟨b, off, none⟩ ∧ b < w.heap.size ∧ ∀ i, i < n → w.cell? ⟨b, off + i, none⟩ = some (.int .u8 (xs.getD i 0)))

theorem BytesAt.keep {w w' : World} {A : Option Addr} {n : Nat} {xs : List Int} (h : BytesAt w A n xs) (k : Below w.heap.size w w') : BytesAt w' A n xs :=
  ⟨h.1, h.2.1, h.2.2.1, fun hn => by
    obtain ⟨b, off, e, hb, hc⟩ := h.2.2.2 hn
    exact ⟨b, off, e, Nat.lt_of_lt_of_le hb k.size, fun i hi => (k.cell hb).trans (hc i hi)⟩⟩
theorem BytesAt.bd {w : World} {A : Option Addr} {n : Nat} {xs : List Int} (h : BytesAt w A n xs) {i : Nat} (hi : i < n) : 0 ≤ xs.getD i 0 ∧ xs.getD i 0 < 256 := by
  have hl : i < xs.length := by have := h.1; omega
  refine h.2.2.1 _ ?_
  simp [List.getD, hl]
end Go.Proofs.Ytdhcmnbajkpjiaa
/-
  The walk of NodeOnce.
-/
namespace Go.Proofs.Ytdhcmnbajkpjiaa
open Go.RowKit
open Go.Maps
set_option linter.unusedVariables false
set_option linter.unusedSimpArgs false
attribute [local go_sem] drewN_alloc drewN_setCell

def OnceRel (w : World) (Fb N : Nat) (i : Value) (wr : World) : Prop := ∃ (j : Nat) (own : Nat → Prop) (S : FSt), j ≤ N ∧ i = .int .i64 j ∧ ForestOver w wr own Fb 40 S
def OnceRel2 (w2 : World) (O : List Nat) (n i : Value) (wr : World) : Prop := ∃ k : Nat, k ≤ 40 ∧ i = .int .i64 k ∧ n = .int .i64 (cntO O k : Nat) ∧ Below w2.heap.size w2 wr
def OnceRel3 (w2 : World) (O : List Nat) (R : Nat → List Nat) (a i : Value) (wr : World) : Prop := ∃ k : Nat, k ≤ 40 ∧ i = .int .i64 k ∧ a = .int .i64 (((R 40).length + sumKids O R k : Nat) : Int) ∧ Below w2.heap.size w2 wr
theorem over_inv {w0 w : World} {own : Nat → Prop} {Fb n : Nat} {S : FSt} (h : ForestOver w0 w own Fb n S) : ∃ St, PC.Inv n (n + 1) St S.R := by
  obtain ⟨B, Sb, Gb, Mb, Pb, C, Nb, Lb, v, h1, ho, hv⟩ := h.ex
  obtain ⟨St, _, hc⟩ := h1.ch
  exact ⟨St, hc⟩
theorem OverStep.over {w0 w w' : World} {own : Nat → Prop} {Fb n : Nat} {S : FSt} (h : OverStep w0 w own Fb n S w') : ∃ own', ForestOver w0 w' own' Fb n S := by
  obtain ⟨own', h1, _⟩ := h
  exact ⟨own', h1⟩

set_option maxRecDepth 100000 in
set_option maxHeartbeats 4000000 in
theorem law37_NodeOnce (A : Option Addr) (n c : Nat) (xs : List Int) (w : World) (hA : BytesAt w A n xs) :
    Calls Try.prog 8 #[.slice A n c] w fun e w' => e = .returned (.bool true) ∧ Below w.heap.size w w' := by
  by_cases h80 : 80 < n
  · have h1' : (80 : Int) < (n : Int) := by omega
    clear hA
    go_enter Try.func8, Try.ntmps8
    go_wp2_with fail
    refine (law37_works _).mono ?_
    rintro e w1 ⟨rfl, h1⟩
    go_wp2_with fail
    go_ret
    exact ⟨rfl, h1⟩
  have hd1 : decide ((80 : Int) < (n : Int)) = false := by simp; omega
  have j1 : (n : Int) ≤ 80 := by omega
  obtain ⟨hlen, -, hbd, hcl⟩ := hA
  have HLEN := Lib.hid hlen
  have HBD := Lib.hid hbd
  have HC := Lib.hid hcl
  have N := Lib.hid (overf_New 40 w (by omega))
  clear hlen hbd hcl h80
  go_enter Try.func8, Try.ntmps8
  go_wp2_with fail
  refine N.out.mono ?_
  rintro e w1 ⟨Fb, o1, rfl, h1⟩
  replace h1 := Lib.hid h1
  go_wp2_with fail
  go_loopw [4] (fun i wr => OnceRel w Fb n i wr) (fun i _ => n - (intOf i).toNat)
  case atStart => exact ⟨0, o1, FSt.new 40, Nat.zero_le _, rfl, h1.out⟩
  case round =>
    clear h1 N
    obtain ⟨j, own, S, hj, rfl, ho⟩ := hrel
    have HJ := Lib.hid hj
    have HO := Lib.hid ho
    clear hj ho
    by_cases hlt : (j : Int) < n
    · obtain ⟨b, off, rfl, hb, hc⟩ := HC.out (by omega)
      have x0 := (HO.out.below.cell (p := ⟨b, off + j, none⟩) hb).trans (hc j (by omega))
      obtain ⟨x, hx⟩ : ∃ x, xs.getD j 0 = x := ⟨_, rfl⟩
      have hjl : j < xs.length := by have := HLEN.out; omega
      have hxe : xs[j] = x := by rw [← hx]; simp [List.getD, hjl]
      have hxb := HBD.out x (by rw [← hxe]; exact List.getElem_mem hjl)
      obtain ⟨hx0, hx1⟩ := hxb
      rw [hx] at x0
      have K0 := Lib.hid (overf_Root HO.out)
      have K1 := Lib.hid (overf_Child (x / 5 % 40) HO.out)
      have K2 := Lib.hid (overf_Drop (x / 5 % 40) HO.out)
      have g0 : (0 : Int) ≤ (j : Int) := by omega
      have g1 : (j : Int) < (n : Int) := hlt
      have HJN : Hid (j + 1 ≤ n ∧ n - (j + 1) < n - j) := Lib.hid (by omega)
      obtain ⟨r, hr⟩ : ∃ r, x % 5 = r := ⟨_, rfl⟩
      obtain ⟨y, hy⟩ : ∃ y, x / 5 % 40 = y := ⟨_, rfl⟩
      rw [hy] at K1 K2
      have hr' : r = 0 ∨ r = 1 ∨ r = 2 ∨ r = 3 ∨ r = 4 := by omega
      clear hx hxe hjl hb hc
      rcases hr' with rfl | rfl | rfl | rfl | rfl
      · go_wp2_with fail
        refine K0.out.mono ?_
        rintro e w2 ⟨rfl, h2⟩
        obtain ⟨o2, h2⟩ := h2.over
        replace h2 := Lib.hid h2
        generalize S.told 40 = tv
        go_wp2_with fail
        go_roundw
        case rel => exact ⟨j + 1, o2, _, HJN.out.1, by go_num, h2.out⟩
        case measure => have := HJN.out; simp [intOf]; omega
      · go_wp2_with fail
        refine K1.out.mono ?_
        rintro e w2 ⟨rfl, h2⟩
        obtain ⟨o2, h2⟩ := h2.over
        replace h2 := Lib.hid h2
        generalize S.toldC 40 y = tv
        go_wp2_with fail
        go_roundw
        case rel => exact ⟨j + 1, o2, _, HJN.out.1, by go_num, h2.out⟩
        case measure => have := HJN.out; simp [intOf]; omega
      · go_wp2_with fail
        refine K1.out.mono ?_
        rintro e w2 ⟨rfl, h2⟩
        obtain ⟨o2, h2⟩ := h2.over
        replace h2 := Lib.hid h2
        generalize S.toldC 40 y = tv
        go_wp2_with fail
        go_roundw
        case rel => exact ⟨j + 1, o2, _, HJN.out.1, by go_num, h2.out⟩
        case measure => have := HJN.out; simp [intOf]; omega
      · go_wp2_with fail
        refine K1.out.mono ?_
        rintro e w2 ⟨rfl, h2⟩
        obtain ⟨o2, h2⟩ := h2.over
        replace h2 := Lib.hid h2
        generalize S.toldC 40 y = tv
        go_wp2_with fail
        go_roundw
        case rel => exact ⟨j + 1, o2, _, HJN.out.1, by go_num, h2.out⟩
        case measure => have := HJN.out; simp [intOf]; omega
      · go_wp2_with fail
        refine K2.out.mono ?_
        rintro e w2 ⟨rfl, h2⟩
        obtain ⟨o2, h2⟩ := h2.over
        replace h2 := Lib.hid h2
        generalize dropOk S.O S.R y = tv
        go_wp2_with fail
        go_roundw
        case rel => exact ⟨j + 1, o2, _, HJN.out.1, by go_num, h2.out⟩
        case measure => have := HJN.out; simp [intOf]; omega
    · have K := Lib.hid (overf_Roots HO.out)
      obtain ⟨St, hc⟩ := over_inv HO.out
      have HS := Lib.hid (sum_all HO.out.fi hc)
      have HCN := Lib.hid (cnt_all HO.out.fi)
      have HOL := Lib.hid HO.out.fi.s.o_len
      clear hc HC HBD HLEN
      go_wp2_with fail
      refine K.out.mono ?_
      rintro e w2 ⟨A2, m2, c2, rfl, hA2, hb2⟩
      have h2 := Lib.hid (HO.out.keep hb2)
      replace hA2 := Lib.hid hA2
      clear hb2 HO K hlt HJ
      go_wp2_with fail
      go_loopw [6, 7] (fun q i wr => OnceRel2 w2 S.O q i wr) (fun q i _ => 40 - (intOf i).toNat)
      case atStart => exact ⟨0, by omega, rfl, rfl, Below.refl _ _⟩
      case round =>
        obtain ⟨k, hk, rfl, rfl, hb⟩ := hrel
        have HK := Lib.hid hk
        have HB := Lib.hid hb
        have H3 := Lib.hid (h2.out.keep hb)
        have q3 := cnt_le S.O k
        clear hb
        by_cases hlt : (k : Int) < 40
        · have K1 := overf_Is (k : Int) H3.out
          have HKN : Hid (k + 1 ≤ 40 ∧ 40 - (k + 1) < 40 - k) := Lib.hid (by omega)
          have g0 : (0 : Int) ≤ (k : Int) := by omega
          by_cases hp : (k : Int) ∈ ints S.O
          · rw [decide_eq_true hp] at K1
            replace K1 := Lib.hid K1
            have HE : Hid (cntO S.O (k + 1) = cntO S.O k + 1) := Lib.hid (by show cntO S.O k + _ = _; rw [if_pos hp])
            obtain ⟨q, hq⟩ : ∃ q, cntO S.O k = q := ⟨_, rfl⟩
            rw [hq] at q3 HE ⊢
            have q4 : (q : Int) ≤ 40 := by omega
            have K2 := overf_Parent (k : Int) H3.out
            rcases once_up h2.out.fi (in_ints.1 hp) with ⟨e, hm⟩ | ⟨i, e, hi, hm⟩
            · rw [e] at K2
              have K3 := base_Has c2 (k : Int) (hA2.out.1.keep HB.out)
              rw [decide_eq_true (in_ints.2 hm)] at K3
              replace K2 := Lib.hid K2
              replace K3 := Lib.hid K3
              clear e hm hp hq hk q3
              go_wp2_with fail
              refine K1.out.mono ?_
              rintro e w3 ⟨rfl, rfl⟩
              go_wp2_with fail
              refine K2.out.mono ?_
              rintro e w3 ⟨rfl, rfl⟩
              go_wp2_with fail
              refine K3.out.mono ?_
              rintro e w3 ⟨rfl, rfl⟩
              go_wp2_with fail
              go_roundw
              case rel => exact ⟨k + 1, HKN.out.1, by go_num, by rw [HE.out]; go_num, HB.out⟩
              case measure => have := HKN.out; simp [intOf]; omega
            · rw [e] at K2
              have K3 := overf_Is (i : Int) H3.out
              rw [decide_eq_true (in_ints.2 hi)] at K3
              have K4 := overf_Children (i : Int) H3.out
              replace K2 := Lib.hid K2
              replace K3 := Lib.hid K3
              replace K4 := Lib.hid K4
              have HM := Lib.hid (decide_eq_true (in_ints.2 hm))
              have g1 : (0 : Int) ≤ (i : Int) := by omega
              have g2 : decide ((0 : Int) ≤ (i : Int)) = true := decide_eq_true g1
              have g3 : decide ((i : Int) < (0 : Int)) = false := decide_eq_false (by omega)
              clear e hm hp hq hk hi q3
              go_wp2_with fail
              refine K1.out.mono ?_
              rintro e w3 ⟨rfl, rfl⟩
              go_wp2_with fail
              refine K2.out.mono ?_
              rintro e w3 ⟨rfl, rfl⟩
              go_wp2_with fail
              refine K3.out.mono ?_
              rintro e w3 ⟨rfl, rfl⟩
              go_wp2_with fail
              refine K4.out.mono ?_
              rintro e w4 ⟨A4, m4, c4, rfl, hA4, hb4⟩
              have K5 := base_Has c4 (k : Int) hA4.1
              rw [HM.out] at K5
              replace K5 := Lib.hid K5
              have HB4 := Lib.hid (bel_trans HB.out hb4)
              clear hA4 hb4
              go_wp2_with fail
              refine K5.out.mono ?_
              rintro e w5 ⟨rfl, rfl⟩
              go_wp2_with fail
              go_roundw
              case rel => exact ⟨k + 1, HKN.out.1, by go_num, by rw [HE.out]; go_num, HB4.out⟩
              case measure => have := HKN.out; simp [intOf]; omega
          · rw [decide_eq_false hp] at K1
            replace K1 := Lib.hid K1
            have HE : Hid (cntO S.O (k + 1) = cntO S.O k) := Lib.hid (by show cntO S.O k + _ = _; rw [if_neg hp]; omega)
            obtain ⟨q, hq⟩ : ∃ q, cntO S.O k = q := ⟨_, rfl⟩
            rw [hq] at q3 HE ⊢
            clear hp hq hk q3
            go_wp2_with fail
            refine K1.out.mono ?_
            rintro e w3 ⟨rfl, rfl⟩
            go_wp2_with fail
            go_roundw
            case rel => exact ⟨k + 1, HKN.out.1, by go_num, by rw [HE.out], HB.out⟩
            case measure => have := HKN.out; simp [intOf]; omega
        · obtain rfl : k = 40 := by omega
          rw [HCN.out]
          have HF := Lib.hid h2.out
          have HLL : Hid (m2 = (S.R 40).length) := Lib.hid (by have := hA2.out.1.1; rw [← this]; simp [ints])
          have q5 := HOL.out
          clear hk q3 h2
          go_wp2_with fail
          go_loopw [9, 10] (fun a i wr => OnceRel3 w2 S.O S.R a i wr) (fun a i _ => 40 - (intOf i).toNat)
          case atStart => exact ⟨0, by omega, rfl, by rw [HLL.out]; rfl, HB.out⟩
          case round =>
            obtain ⟨k, hk, rfl, rfl, hb⟩ := hrel
            have HK := Lib.hid hk
            have HB5 := Lib.hid hb
            have H5 := Lib.hid (HF.out.keep hb)
            have q6 := sum_mono (O := S.O) (R := S.R) hk
            have hS := HS.out
            clear hb
            by_cases hlt : (k : Int) < 40
            · have K1 := Lib.hid (overf_Children (k : Int) H5.out)
              have HKN : Hid (k + 1 ≤ 40 ∧ 40 - (k + 1) < 40 - k) := Lib.hid (by omega)
              have HSS : Hid (∀ m : Nat, m = (ints (kidV S.O S.R (k : Int))).length → (S.R 40).length + sumKids S.O S.R (k + 1) = (S.R 40).length + sumKids S.O S.R k + m ∧ (S.R 40).length + sumKids S.O S.R k + m ≤ 40) := Lib.hid (fun m hm => by
                have h1 := sum_mono (O := S.O) (R := S.R) (show k + 1 ≤ 40 by omega)
                have e : sumKids S.O S.R (k + 1) = sumKids S.O S.R k + (kidV S.O S.R (k : Int)).length := rfl
                have e2 : (ints (kidV S.O S.R (k : Int))).length = (kidV S.O S.R (k : Int)).length := by simp [ints]
                omega)
              obtain ⟨q, hq⟩ : ∃ q, (S.R 40).length + sumKids S.O S.R k = q := ⟨_, rfl⟩
              rw [hq] at HSS ⊢
              clear hq hS q6 hk
              go_wp2_with fail
              refine K1.out.mono ?_
              rintro e w4 ⟨A4, m4, c4, rfl, hA4, hb4⟩
              have HB6 := Lib.hid (bel_trans HB5.out hb4)
              obtain ⟨hx, hx2⟩ := HSS.out m4 hA4.1.1.symm
              have HX := Lib.hid hx
              have q7 : (q : Int) + (m4 : Int) ≤ 40 := by omega
              clear hA4 hb4 hx hx2
              go_wp2_with fail
              go_roundw
              case rel => exact ⟨k + 1, HKN.out.1, by go_num, by rw [HX.out]; go_num, HB6.out⟩
              case measure => have := HKN.out; simp [intOf]; omega
            · obtain rfl : k = 40 := by omega
              rw [hS]
              clear hS q6 hk hlt
              go_wp2_with fail
              refine (nof_Root (.inl rfl)).mono ?_
              rintro e w4 ⟨rfl, rfl⟩
              go_wp2_with fail
              have HZ : Hid (NoF (wr.alloc (Obj.cells #[.pointer none, .pointer none, .slice none 0 0] 77)) (some ⟨wr.heap.size, 0, none⟩)) := Lib.hid (.inr ⟨_, rfl, by simp [go_sem]⟩)
              have HW := Lib.hid (H5.out.keep (bel_alloc (Below.refl _ _) (Obj.cells #[.pointer none, .pointer none, .slice none 0 0] 77)))
              refine (nof_Child 0 HZ.out).mono ?_
              rintro e w4 ⟨rfl, rfl⟩
              go_wp2_with fail
              refine (overf_Len HW.out).mono ?_
              rintro e w4 ⟨rfl, rfl⟩
              go_wp2_with fail
              refine (nof_Drop 0 (.inl rfl)).mono ?_
              rintro e w4 ⟨rfl, rfl⟩
              go_wp2_with fail
              refine (nof_Is 0 HZ.out).mono ?_
              rintro e w4 ⟨rfl, rfl⟩
              go_wp2_with fail
              refine (nof_Right 0 0 (.inl rfl)).mono ?_
              rintro e w4 ⟨rfl, rfl⟩
              go_wp2_with fail
              refine (nof_Parent 0 (.inl rfl)).mono ?_
              rintro e w4 ⟨rfl, rfl⟩
              go_wp2_with fail
              refine (nof_First 0 HZ.out).mono ?_
              rintro e w4 ⟨rfl, rfl⟩
              go_wp2_with fail
              refine (nof_Next 0 (.inl rfl)).mono ?_
              rintro e w4 ⟨rfl, rfl⟩
              go_wp2_with fail
              refine (nof_Children 0 (.inl rfl)).mono ?_
              rintro e w4 ⟨rfl, rfl⟩
              go_wp2_with fail
              refine (nof_Roots HZ.out).mono ?_
              rintro e w4 ⟨rfl, rfl⟩
              go_wp2_with fail
              refine (nof_Len (.inl rfl)).mono ?_
              rintro e w4 ⟨rfl, rfl⟩
              go_wp2_with fail
              refine (nof_Len HZ.out).mono ?_
              rintro e w4 ⟨rfl, rfl⟩
              go_wp2_with fail
              refine (law37_works _).mono ?_
              rintro e w4 ⟨rfl, h4⟩
              have HFIN := Lib.hid (bel_trans HW.out.below h4)
              go_wp2_with fail
              go_ret
              exact ⟨rfl, HFIN.out⟩
end Go.Proofs.Ytdhcmnbajkpjiaa
/-
  The reference's slots: slices that lie in blocks that a condition allows; own slices of bools; with.
-/
namespace Go.Proofs.Ytdhcmnbajkpjiaa
open Go.RowKit
open Go.Maps
set_option linter.unusedVariables false
set_option linter.unusedSimpArgs false
attribute [local go_sem] drewN_alloc drewN_setCell

/-- v is a slice that reads as these cells, in a block of P. -/
def VAt (P : Nat → Prop) (w : World) (A : Option Addr) (n c : Nat) (vs : List Value) : Prop :=
  vs.length = n ∧ n ≤ c ∧ c ≤ 9223372036854775807 ∧ (0 < n → ∃ b off, A = some ⟨b, off, none⟩ ∧ P b ∧ b < w.heap.size ∧ ∀ i u, vs[i]? = some u → w.cell? ⟨b, off + i, none⟩ = some u)
theorem VAt.nil {P : Nat → Prop} {w : World} : VAt P w none 0 0 [] := ⟨rfl, Nat.le_refl _, by omega, fun h => absurd h (by omega)⟩
theorem VAt.mono {P P' : Nat → Prop} {w : World} {A : Option Addr} {n c : Nat} {vs : List Value} (h : VAt P w A n c vs) (hp : ∀ b, b < w.heap.size → P b → P' b) : VAt P' w A n c vs :=
  ⟨h.1, h.2.1, h.2.2.1, fun h0 => by obtain ⟨b, off, e, h1, h2, h3⟩ := h.2.2.2 h0; exact ⟨b, off, e, hp b h2 h1, h2, h3⟩⟩
theorem VAt.blocks {P : Nat → Prop} {w w' : World} {A : Option Addr} {n c : Nat} {vs : List Value} (h : VAt P w A n c vs) (hs : w.heap.size ≤ w'.heap.size) (hb : ∀ b, b < w.heap.size → P b → w'.heap[b]? = w.heap[b]?) : VAt P w' A n c vs :=
  ⟨h.1, h.2.1, h.2.2.1, fun h0 => by
    obtain ⟨b, off, e, h1, h2, h3⟩ := h.2.2.2 h0
    exact ⟨b, off, e, h1, Nat.lt_of_lt_of_le h2 hs, fun i u hu => (World.cell?_of_block (w := w) (hb b h2 h1)).trans (h3 i u hu)⟩⟩
theorem VAt.keep {P : Nat → Prop} {w w' : World} {A : Option Addr} {n c : Nat} {vs : List Value} (h : VAt P w A n c vs) (hb : Below w.heap.size w w') : VAt P w' A n c vs := h.blocks hb.size (fun b h1 _ => hb.block b h1)
theorem VAt.src {P : Nat → Prop} {w : World} {A : Option Addr} {n c : Nat} {vs : List Value} (h : VAt P w A n c vs) : SrcS 1 w A n vs := by
  refine ⟨by rw [Nat.mul_one]; exact h.1, fun e => ?_, fun ad e j u hu => ?_⟩
  · rcases Nat.eq_zero_or_pos n with h0 | h0
    · exact h0
    · obtain ⟨b, off, e2, _⟩ := h.2.2.2 h0; rw [e] at e2; cases e2
  · have hj : j < vs.length := by
      rcases Nat.lt_or_ge j vs.length with h1 | h1
      · exact h1
      · rw [List.getElem?_eq_none h1] at hu; cases hu
    obtain ⟨b, off, e2, _, _, h3⟩ := h.2.2.2 (by have := h.1; omega)
    rw [e2] at e; cases e
    rw [addr_addS]
    exact h3 j u hu
theorem VAt.ints {P : Nat → Prop} {w : World} {A : Option Addr} {n c : Nat} {xs : List Int} (h : VAt P w A n c (cellsI xs)) : IntsAt w A n xs := by
  have h1 := h.1
  have h2 := h.2.1
  have h3 := h.2.2.1
  simp only [cellsI, List.length_map] at h1
  refine ⟨h1, by omega, fun h0 => ?_⟩
  obtain ⟨b, off, e, _, hb, hc⟩ := h.2.2.2 h0
  refine ⟨b, off, e, hb, fun i hi => hc i _ ?_⟩
  have hi' : i < xs.length := by omega
  simp [cellsI, List.getD, hi']
theorem VAt.of_own {w : World} {base : Nat} {t : TypeId} {v : Value} {n : Nat} {vs : List Value} (h : w.ownsRow base t 1 v n vs) : ∃ A c, v = .slice A n c ∧ VAt (fun b => base ≤ b ∧ v.ownBlock = some b) w A n c vs := by
  have hl : vs.length = n := by have := h.1; simpa using this
  rcases h.2 with ⟨rfl, e⟩ | ⟨g, cap, cur, rfl, hb, hg, hn, hcm, hcs, hx⟩
  · subst e
    exact ⟨none, 0, rfl, hl, Nat.le_refl _, by omega, fun h0 => absurd h0 (by omega)⟩
  · refine ⟨some ⟨g, 0, none⟩, cap, rfl, hl, hn, by unfold maxLen at hcm; omega, fun h0 => ⟨g, 0, rfl, ⟨hb, rfl⟩, ?_, fun i u hu => ?_⟩⟩
    · rcases Nat.lt_or_ge g w.heap.size with hl | hge
      · exact hl
      · rw [Array.getElem?_eq_none hge] at hg; cases hg
    · have hi : i < n := by
        rcases Nat.lt_or_ge i vs.length with h1 | h1
        · omega
        · rw [List.getElem?_eq_none h1] at hu; cases hu
      rw [Nat.zero_add, World.ownsRow.cellAt (w := w) (base := base) (e := t) (size := 1) h i (by omega)]
      exact hu
def cellsB (l : List Bool) : List Value := l.map Value.bool
theorem cellsB_one' (l : List Bool) : ∀ u ∈ cellsB l, u.oneCell' = true := by
  intro u hu
  obtain ⟨x, _, rfl⟩ := List.mem_map.1 hu
  simp [Value.oneCell']
theorem infoBool : ∃ i : TypeInfo, Try.prog.info? 4 = some i ∧ i.zero = some (.bool false) ∧ i.size = 1 ∧ i.bytes = 1 := by
  have h : (Try.prog.info? 4).map (fun i => (i.zero, i.size, i.bytes)) = some (some (.bool false), 1, 1) := by kernel_rfl
  rcases hi : Try.prog.info? 4 with _ | i
  · rw [hi] at h; cases h
  · rw [hi] at h
    simp only [Option.map_some, Option.some.injEq, Prod.mk.injEq] at h
    exact ⟨i, rfl, h.1, h.2.1, h.2.2⟩
/-- append onto an empty row of bools. -/
theorem app_listB {ops : Array Oper} {rest : List Oper} {o : Oper} {a : Act} {Q : Exit → Act → World → Prop} {w : World} (hgd : o.guard = none) (s x : Operand)
    (ho : o.op = .call { callee := .builtin .append, args := #[s, x], argTypes := #[54, 54] })
    (B : Nat) (v : Value) (hsv : a.eval s = v) (hown : w.ownsRow B 4 1 v 0 [])
    (A : Option Addr) (m c : Nat) (l2 : List Bool) (hx : a.eval x = .slice A m c) (hs : SrcS 1 w A m (cellsB l2)) (hlen : m ≤ 1048576) (hbase : B ≤ w.heap.size)
    (h : ∀ v' w', w'.ownsRow B 4 1 v' m (cellsB l2) → w.grownBy w' v.ownBlock → (v'.ownBlock = v.ownBlock ∨ v'.ownBlock = some w.heap.size) → wpList Try.prog ops Q rest (a.put o.dst v') w') : wpList Try.prog ops Q (o :: rest) a w := by
  obtain ⟨i, hi, hz, hsz, hby⟩ := infoBool
  refine wpList_append_S w hgd 1 (by decide) s x 54 ho B 4 i _ 1 Try.underlying54 hi hz hsz hby rfl v 0 [] hsv hown A m c _ hx hs (cellsB_one' l2) (by unfold maxLen; omega) (by omega) hbase (fun v' w' h2 h3 h4 => ?_)
  refine h v' w' ?_ h3 h4
  rw [Nat.zero_add, List.nil_append] at h2
  exact h2
theorem own_of_block {B : Nat} {w w' : World} {t : TypeId} {v : Value} {n : Nat} {l : List Value} (h : w.ownsRow B t 1 v n l) (e : ∀ k, v.ownBlock = some k → w'.heap[k]? = w.heap[k]?) : w'.ownsRow B t 1 v n l := by
  refine ⟨h.1, ?_⟩
  rcases h.2 with ⟨rfl, e1⟩ | ⟨g, cap, cur, rfl, hb, hgg, r⟩
  · exact .inl ⟨rfl, e1⟩
  · exact .inr ⟨g, cap, cur, rfl, hb, (e g rfl).trans hgg, r⟩
theorem ne_some (a b : Nat) (h : a ≠ b) : some a ≠ some b := fun e => h (by cases e; rfl)
theorem le_alloc (w : World) (o : Obj) : w.heap.size ≤ (w.alloc o).heap.size := by simp
theorem grown_row {W0 w1 : World} {g : Nat} {t : TypeId} {cs : List Value} {o : Obj} {row : Option Nat} (h : RowAt W0 g t cs) (hg : (W0.alloc o).grownBy w1 row) (hne : row ≠ some g) : RowAt w1 g t cs :=
  (h.alloc o).of_block (hg.block g (by have := h.lt; simp; omega) (fun e => hne e.symm))
theorem grown_below {w W0 w1 : World} {o : Obj} (h : Below w.heap.size w W0) (hg : (W0.alloc o).grownBy w1 (some W0.heap.size)) : Below w.heap.size w w1 :=
  (h.alloc h.size o).grown hg (by have := h.size; simp; omega) (fun k hk => by cases hk; exact h.size)
theorem grown_size {W0 w1 : World} {o : Obj} {row : Option Nat} (hg : (W0.alloc o).grownBy w1 row) : W0.heap.size + 1 ≤ w1.heap.size := by
  have := hg.size
  simpa using this
theorem own_grown {W0 w1 : World} {B go n c : Nat} {t : TypeId} {l : List Value} {o : Obj} {row : Option Nat} (h : W0.ownsRow B t 1 (.slice (some ⟨go, 0, none⟩) n c) n l) (hg : (W0.alloc o).grownBy w1 row) (hne : row ≠ some go) : w1.ownsRow B t 1 (.slice (some ⟨go, 0, none⟩) n c) n l :=
  own_of_block h (fun k hk => by
    have h1 := (World.ownsRow.lt h k hk).2
    have e : go = k := by simpa [Value.ownBlock] using hk
    subst e
    exact (hg.block go (by simp; omega) (fun e => hne e.symm)).trans (Below.heap_alloc _ _ _ h1))
theorem own_fix {B n : Nat} {w : World} {v : Value} {g : List Int} (e : g.length = n) (h : OwnI B w v ([] ++ g)) : w.ownsRow B 3 1 v n (cellsI g) := by
  unfold OwnI at h
  rw [List.nil_append, e] at h
  exact h
theorem own_mono {B B' : Nat} {w : World} {t : TypeId} {v : Value} {n : Nat} {l : List Value} (h : w.ownsRow B t 1 v n l) (hB : B' ≤ B) : w.ownsRow B' t 1 v n l := by
  refine ⟨h.1, ?_⟩
  rcases h.2 with ⟨rfl, e⟩ | ⟨g, cap, cur, rfl, hb, r⟩
  · exact .inl ⟨rfl, e⟩
  · exact .inr ⟨g, cap, cur, rfl, by omega, r⟩
theorem set4_block (W : World) (b k : Nat) (x0 x1 x2 x3 : Value) (h : k ≠ b) : ((((W.setCell ⟨b, 0, none⟩ x0).setCell ⟨b, 1, none⟩ x1).setCell ⟨b, 2, none⟩ x2).setCell ⟨b, 3, none⟩ x3).heap[k]? = W.heap[k]? := by
  rw [Below.heap_setCell _ _ _ _ h, Below.heap_setCell _ _ _ _ h, Below.heap_setCell _ _ _ _ h, Below.heap_setCell _ _ _ _ h]
theorem set4_below {w W : World} {b : Nat} (hb : Below w.heap.size w W) (h : w.heap.size ≤ b) (x0 x1 x2 x3 : Value) : Below w.heap.size w ((((W.setCell ⟨b, 0, none⟩ x0).setCell ⟨b, 1, none⟩ x1).setCell ⟨b, 2, none⟩ x2).setCell ⟨b, 3, none⟩ x3) :=
  (((hb.setCell h _).setCell h _).setCell h _).setCell h _
/-- What 'with' hands back: own rows of bools and of ints, in blocks of their own. -/
def GWith (n m cc : Nat) (Ac : Option Addr) (fr : Int) (bs : List Bool) (g : List Int) (w : World) (e : Ending) (w' : World) : Prop :=
  ∃ go cpo gg cpg, e = .returned (.agg #[.slice (some ⟨go, 0, none⟩) n cpo, .slice (some ⟨gg, 0, none⟩) n cpg, .slice Ac m cc, .int .i64 fr]) ∧
    w'.ownsRow w.heap.size 4 1 (.slice (some ⟨go, 0, none⟩) n cpo) n (cellsB bs) ∧ w'.ownsRow w.heap.size 3 1 (.slice (some ⟨gg, 0, none⟩) n cpg) n (cellsI g) ∧ go ≠ gg ∧ Below w.heap.size w w'
set_option maxRecDepth 100000 in
set_option maxHeartbeats 4000000 in
theorem ref06_with {Pc : Nat → Prop} {w : World} {Ao Ag Ac : Option Addr} {n co cg m cc : Nat} {fr : Int} {bs : List Bool} {g : List Int} (p : Nat) (b : Bool) (hp : p < n) (hn : n ≤ 4096)
    (h1 : VAt Pc w Ao n co (cellsB bs)) (h2 : VAt Pc w Ag n cg (cellsI g)) :
    Calls Try.prog 151 #[.agg #[.slice Ao n co, .slice Ag n cg, .slice Ac m cc, .int .i64 fr], .int .i64 (p : Int), .bool b] w (GWith n m cc Ac fr (bs.set p b) g w) := by
  have HS1 := Lib.hid h1.src
  have HS2 := Lib.hid h2.src
  have H1 := Lib.hid h1
  have H2 := Lib.hid h2
  have hbl : Hid (bs.length = n) := Lib.hid (by have := h1.1; simpa [cellsB] using this)
  have hgl : Hid (g.length = n) := Lib.hid (by have := h2.1; simpa [cellsI] using this)
  have j0 : (0 : Int) ≤ (p : Int) := by omega
  have j1 : (p : Int) < (n : Int) := by omega
  clear h1 h2
  go_enter Try.func151, Try.ntmps151
  go_upto_region 1 with (fail)
  refine region_name ?_
  rintro W0 hW0
  have r0 : RowAt W0 w.heap.size 56 [.slice Ao n co, .slice Ag n cg, .slice Ac m cc, .int .i64 fr] := by
    rw [hW0]; exact (RowAt.new w 56 _).alloc _
  have s0 : RowAt W0 (w.heap.size + 1) 56 [.slice none 0 0, .slice none 0 0, .slice none 0 0, .int .i64 0] := by
    rw [hW0]
    have := RowAt.new (w.alloc (.cells #[.slice Ao n co, .slice Ag n cg, .slice Ac m cc, .int .i64 fr] 56)) 56 [.slice none 0 0, .slice none 0 0, .slice none 0 0, .int .i64 0]
    simpa using this
  have b0 : Below w.heap.size w W0 := by rw [hW0]; exact (by repeat (first | exact Below.refl _ _ | assumption | refine bel_drew ?_ | refine bel_drewN ?_ _ | refine bel_alloc ?_ _ | refine bel_set ?_ (by first | (dsimp only; omega) | (simp; done) | (simp; omega)) _ | refine bel_trans ?_ (by assumption)))
  have z0 : w.heap.size + 2 ≤ W0.heap.size := by rw [hW0]; simp
  clear hW0
  have c0 : W0.cell? ⟨w.heap.size, 0, none⟩ = some (.slice Ao n co) := by rw [r0.cell]; rfl
  have c0a : (W0.alloc (.cells #[] 4)).cell? ⟨w.heap.size, 0, none⟩ = some (.slice Ao n co) := by rw [(r0.alloc _).cell]; rfl
  have hne0 : Hid (some W0.heap.size ≠ some w.heap.size) := Lib.hid (ne_some _ _ (by omega))
  have hne1 : Hid (some W0.heap.size ≠ some (w.heap.size + 1)) := Lib.hid (ne_some _ _ (by omega))
  have HN : Hid (n ≤ 1048576) := Lib.hid (by omega)
  have HSA : Hid (SrcS 1 (W0.alloc (.cells #[] 4)) Ao n (cellsB bs)) := Lib.hid ((H1.out.keep b0).keep (bel_alloc (Below.refl _ _) _)).src
  go_upto_region 2 with (at_builtin; refine app_listB rfl (.tmp 7) (.tmp 9) rfl W0.heap.size (.slice (some ⟨W0.heap.size, 0, none⟩) 0 0) rfl (own_emptyS 1 W0 4) Ao n co bs rfl HSA.out HN.out (le_alloc W0 _) ?_; intro v1 w1 ho1 hg1 hor1; have r1 := grown_row r0 hg1 hne0.out; have s1 := grown_row s0 hg1 hne1.out; have b1 := grown_below b0 hg1; have z1 := grown_size hg1; obtain ⟨go, cpo, rfl, hgo, hgo2⟩ := ho1.form (Nat.lt_of_le_of_lt (Nat.zero_le _) hp); have q1 : w1.cell? ⟨w.heap.size, 0, none⟩ = some (.slice Ao n co) := (r1.cell 0).trans rfl; have qf1 := r1.frozen 0; clear hor1 hg1)
  refine region_name ?_
  rintro W2 hW2
  have r2 : RowAt W2 w.heap.size 56 [.slice (some ⟨go, 0, none⟩) n cpo, .slice Ag n cg, .slice Ac m cc, .int .i64 fr] := by rw [hW2]; exact r1.set_ 0 _
  have s2 : RowAt W2 (w.heap.size + 1) 56 [.slice none 0 0, .slice none 0 0, .slice none 0 0, .int .i64 0] := by rw [hW2]; exact s1.far (by show w.heap.size + 1 ≠ w.heap.size; omega) _
  have o2 : W2.ownsRow W0.heap.size 4 1 (.slice (some ⟨go, 0, none⟩) n cpo) n (cellsB bs) := by
    rw [hW2]
    exact own_of_block ho1 (fun k hk => Below.heap_setCell _ _ _ _ (by have := (World.ownsRow.lt ho1 k hk).1; show k ≠ w.heap.size; omega))
  have b2 : Below w.heap.size w W2 := by rw [hW2]; exact b1.setCell (Nat.le_refl _) _
  have z2 : W2.heap.size = w1.heap.size := by rw [hW2]; simp
  have hgo3 : go < W2.heap.size := by omega
  have zz : w.heap.size + 2 ≤ W2.heap.size := by omega
  have zz2 : W0.heap.size ≤ W2.heap.size := by omega
  clear hW2 r1 s1 ho1 b1 q1 qf1 z1 z2 hgo2 r0 s0 c0 c0a HSA hne0 hne1
  have c1a : (W2.alloc (.cells #[] 3)).cell? ⟨w.heap.size, 1, none⟩ = some (.slice Ag n cg) := by rw [(r2.alloc _).cell]; rfl
  have hne0 : Hid (some W2.heap.size ≠ some w.heap.size) := Lib.hid (ne_some _ _ (by omega))
  have hne1 : Hid (some W2.heap.size ≠ some (w.heap.size + 1)) := Lib.hid (ne_some _ _ (by omega))
  have hne2 : Hid (some W2.heap.size ≠ some go) := Lib.hid (ne_some _ _ (by omega))
  have HN2 : Hid (([] : List Int).length + n ≤ 1048576) := Lib.hid (by simp; omega)
  have HSA2 : Hid (SrcS 1 (W2.alloc (.cells #[] 3)) Ag n (cellsI g)) := Lib.hid ((H2.out.keep b2).keep (bel_alloc (Below.refl _ _) _)).src
  go_upto_region 3 with (at_builtin; refine app_listG rfl (.tmp 12) (.tmp 14) rfl W2.heap.size (.slice (some ⟨W2.heap.size, 0, none⟩) 0 0) [] rfl (own_emptyI W2) Ag n cg g rfl HSA2.out HN2.out (le_alloc W2 _) ?_; intro v3 w3 ho3 hg3 hor3; have r3 := grown_row r2 hg3 hne0.out; have s3 := grown_row s2 hg3 hne1.out; have b3 := grown_below b2 hg3; have z3 := grown_size hg3; have o3 := own_grown o2 hg3 hne2.out; have ho3 := own_fix hgl.out ho3; obtain ⟨gg, cpg, rfl, hgg, hgg2⟩ := ho3.form (Nat.lt_of_le_of_lt (Nat.zero_le _) hp); have q3 : w3.cell? ⟨w.heap.size, 1, none⟩ = some (.slice Ag n cg) := (r3.cell 1).trans rfl; have qf3 := r3.frozen 1; clear hor3 hg3)
  refine region_name ?_
  rintro W4 hW4
  have r4 : RowAt W4 w.heap.size 56 [.slice (some ⟨go, 0, none⟩) n cpo, .slice (some ⟨gg, 0, none⟩) n cpg, .slice Ac m cc, .int .i64 fr] := by rw [hW4]; exact r3.set_ 1 _
  have s4 : RowAt W4 (w.heap.size + 1) 56 [.slice none 0 0, .slice none 0 0, .slice none 0 0, .int .i64 0] := by rw [hW4]; exact s3.far (by show w.heap.size + 1 ≠ w.heap.size; omega) _
  have o4 : W4.ownsRow W0.heap.size 4 1 (.slice (some ⟨go, 0, none⟩) n cpo) n (cellsB bs) := by
    rw [hW4]
    exact own_of_block o3 (fun k hk => Below.heap_setCell _ _ _ _ (by have := (World.ownsRow.lt o3 k hk).1; show k ≠ w.heap.size; omega))
  have g4 : W4.ownsRow W2.heap.size 3 1 (.slice (some ⟨gg, 0, none⟩) n cpg) n (cellsI g) := by
    rw [hW4]
    exact own_of_block ho3 (fun k hk => Below.heap_setCell _ _ _ _ (by have := (World.ownsRow.lt ho3 k hk).1; show k ≠ w.heap.size; omega))
  have b4 : Below w.heap.size w W4 := by rw [hW4]; exact b3.setCell (Nat.le_refl _) _
  have z4 : W4.heap.size = w3.heap.size := by rw [hW4]; simp
  have hgg3 : gg < W4.heap.size := by omega
  clear hW4 r3 s3 ho3 o3 b3 q3 qf3 z3 z4 hgg2 r2 s2 o2 b2 c1a hne0 hne1 hne2 HSA2 HN2
  have c4 : W4.cell? ⟨w.heap.size, 0, none⟩ = some (.slice (some ⟨go, 0, none⟩) n cpo) := by rw [r4.cell]; rfl
  have hpb : p < bs.length := by have := hbl.out; omega
  have x4 : W4.cell? ⟨go, p, none⟩ = some (.bool bs[p]) := by
    rw [World.ownsRow.cellAt o4 p (by omega)]
    simp [cellsB, hpb]
  have hfz : W4.frozen? ⟨go, p, none⟩ = false := World.ownsRow.frozenAt o4 p
  generalize bs[p] = bp at x4
  clear hpb
  go_upto_region 4 with (fail)
  refine region_name ?_
  rintro W5 hW5
  have r5 : RowAt W5 w.heap.size 56 [.slice (some ⟨go, 0, none⟩) n cpo, .slice (some ⟨gg, 0, none⟩) n cpg, .slice Ac m cc, .int .i64 fr] := by rw [hW5]; exact r4.far (by show w.heap.size ≠ go; omega) _
  have s5 : RowAt W5 (w.heap.size + 1) 56 [.slice none 0 0, .slice none 0 0, .slice none 0 0, .int .i64 0] := by rw [hW5]; exact s4.far (by show w.heap.size + 1 ≠ go; omega) _
  have o5 : W5.ownsRow W0.heap.size 4 1 (.slice (some ⟨go, 0, none⟩) n cpo) n (cellsB (bs.set p b)) := by
    rw [hW5]
    have e : cellsB (bs.set p b) = (cellsB bs).set p (.bool b) := by unfold cellsB; rw [List.map_set]
    rw [e]
    exact (o4.stored p (.bool b)).1
  have g5 : W5.ownsRow W2.heap.size 3 1 (.slice (some ⟨gg, 0, none⟩) n cpg) n (cellsI g) := by
    rw [hW5]
    exact own_of_block g4 (fun k hk => Below.heap_setCell _ _ _ _ (by have := (World.ownsRow.lt g4 k hk).1; show k ≠ go; omega))
  have b5 : Below w.heap.size w W5 := by rw [hW5]; exact b4.setCell (by show w.heap.size ≤ go; omega) _
  clear hW5 r4 s4 o4 g4 b4 c4 x4 hfz
  have d0 : W5.cell? ⟨w.heap.size, 0, none⟩ = some (.slice (some ⟨go, 0, none⟩) n cpo) := by rw [r5.cell]; rfl
  have d1 : W5.cell? ⟨w.heap.size, 1, none⟩ = some (.slice (some ⟨gg, 0, none⟩) n cpg) := by rw [r5.cell]; rfl
  have d2 : W5.cell? ⟨w.heap.size, 2, none⟩ = some (.slice Ac m cc) := by rw [r5.cell]; rfl
  have d3 : W5.cell? ⟨w.heap.size, 3, none⟩ = some (.int .i64 fr) := by rw [r5.cell]; rfl
  have e0 : W5.cell? ⟨w.heap.size + 1, 0, none⟩ = some (.slice none 0 0) := by rw [s5.cell]; rfl
  have e1 : W5.cell? ⟨w.heap.size + 1, 1, none⟩ = some (.slice none 0 0) := by rw [s5.cell]; rfl
  have e2 : W5.cell? ⟨w.heap.size + 1, 2, none⟩ = some (.slice none 0 0) := by rw [s5.cell]; rfl
  have e3 : W5.cell? ⟨w.heap.size + 1, 3, none⟩ = some (.int .i64 0) := by rw [s5.cell]; rfl
  have f0 := s5.frozen 0
  have f1 := s5.frozen 1
  have f2 := s5.frozen 2
  have f3 := s5.frozen 3
  go_wp2_with fail
  refine bodyPost_ret (v := .agg #[.slice (some ⟨go, 0, none⟩) n cpo, .slice (some ⟨gg, 0, none⟩) n cpg, .slice Ac m cc, .int .i64 fr]) (by simp [results, Try.results151, go_sem, *]) rfl ⟨go, cpo, gg, cpg, rfl, ?_, ?_, by omega, ?_⟩
  · exact own_mono (own_of_block o5 (fun k hk => set4_block _ _ _ _ _ _ _ (by have := (World.ownsRow.lt o5 k hk).1; omega))) b0.size
  · exact own_mono (own_of_block g5 (fun k hk => set4_block _ _ _ _ _ _ _ (by have := (World.ownsRow.lt g5 k hk).1; omega))) (Nat.le_trans b0.size zz2)
  · exact set4_below b5 (by omega) _ _ _ _
end Go.Proofs.Ytdhcmnbajkpjiaa
/-
  The reference's slots in memory: Right, OpenOne.
-/
namespace Go.Proofs.Ytdhcmnbajkpjiaa
open Go.RowKit
open Go.Maps
set_option linter.unusedVariables false
set_option linter.unusedSimpArgs false
attribute [local go_sem] drewN_alloc drewN_setCell

def openL (n : Nat) (O : List Nat) : List Bool := (List.range n).map (fun p => decide (p ∈ O))
theorem openL_len (n : Nat) (O : List Nat) : (openL n O).length = n := by simp [openL]
theorem openL_get {n : Nat} {O : List Nat} {p : Nat} (hp : p < n) : (cellsB (openL n O))[p]? = some (.bool (decide (p ∈ O))) := by simp [cellsB, openL, hp]
theorem openL_cons {n : Nat} {O : List Nat} {p : Nat} : (openL n O).set p true = openL n (p :: O) := by
  apply List.ext_getElem?
  intro i
  rw [List.getElem?_set]
  by_cases e : p = i
  · subst e
    by_cases h : p < n
    · simp [openL, h]
    · simp [openL, h]
  · simp only [e, if_false]
    by_cases h : i < n
    · simp [openL, h, show ¬ i = p from fun h => e h.symm]
    · simp [openL, h]
theorem openL_erase {n : Nat} {O : List Nat} {p : Nat} (hO : O.Nodup) : (openL n O).set p false = openL n (O.erase p) := by
  apply List.ext_getElem?
  intro i
  rw [List.getElem?_set]
  by_cases e : p = i
  · subst e
    by_cases h : p < n
    · simp [openL, h, hO.mem_erase_iff]
    · simp [openL, h]
  · simp only [e, if_false]
    by_cases h : i < n
    · simp [openL, h, hO.mem_erase_iff, show i ≠ p from fun h => e h.symm]
    · simp [openL, h]
/-- The reference's slots. -/
def RefS (P : Nat → Prop) (w : World) (V : Value) (n : Nat) (g : List Int) (O cl : List Nat) (fr : Nat) : Prop :=
  ∃ Ao co Ag cg Ac cc, V = .agg #[.slice Ao n co, .slice Ag n cg, .slice Ac cl.length cc, .int .i64 (fr : Int)] ∧ VAt P w Ao n co (cellsB (openL n O)) ∧ VAt P w Ag n cg (cellsI g) ∧ VAt P w Ac cl.length cc (cellsI (ints cl))
variable {P : Nat → Prop} {w w' : World} {V : Value} {n : Nat} {g : List Int} {O cl : List Nat} {fr : Nat}
theorem RefS.blocks (h : RefS P w V n g O cl fr) (hs : w.heap.size ≤ w'.heap.size) (hb : ∀ b, b < w.heap.size → P b → w'.heap[b]? = w.heap[b]?) : RefS P w' V n g O cl fr := by
  obtain ⟨Ao, co, Ag, cg, Ac, cc, e, h1, h2, h3⟩ := h
  exact ⟨Ao, co, Ag, cg, Ac, cc, e, h1.blocks hs hb, h2.blocks hs hb, h3.blocks hs hb⟩
theorem RefS.keep (h : RefS P w V n g O cl fr) (hb : Below w.heap.size w w') : RefS P w' V n g O cl fr := h.blocks hb.size (fun b h1 _ => hb.block b h1)
theorem RefS.mono {P' : Nat → Prop} (h : RefS P w V n g O cl fr) (hp : ∀ b, b < w.heap.size → P b → P' b) : RefS P' w V n g O cl fr := by
  obtain ⟨Ao, co, Ag, cg, Ac, cc, e, h1, h2, h3⟩ := h
  exact ⟨Ao, co, Ag, cg, Ac, cc, e, h1.mono hp, h2.mono hp, h3.mono hp⟩
theorem VAt.at {vs : List Value} {A : Option Addr} {c : Nat} (h : VAt P w A n c vs) {i : Nat} {u : Value} (hi : vs[i]? = some u) : ∃ b off, A = some ⟨b, off, none⟩ ∧ b < w.heap.size ∧ w.cell? ⟨b, off + i, none⟩ = some u := by
  have hl : i < vs.length := by
    rcases Nat.lt_or_ge i vs.length with h1 | h1
    · exact h1
    · rw [List.getElem?_eq_none h1] at hi; cases hi
  obtain ⟨b, off, e, _, h1, h2⟩ := h.2.2.2 (by have := h.1; omega)
  exact ⟨b, off, e, h1, h2 i u hi⟩
theorem cellsI_at {l : List Int} {i : Nat} (hi : i < l.length) : (cellsI l)[i]? = some (.int .i64 (l.getD i 0)) := by simp [cellsI, List.getD, hi]
set_option maxHeartbeats 2000000 in
theorem ref06_Right (x y : Int) (h : RefS P w V n g O cl fr) (hO : ∀ p ∈ O, p < n) : Calls Try.prog 118 #[V, .int .i64 x, .int .i64 y] w fun e w' => e = .returned (.bool (rightB O g x y)) ∧ Below w.heap.size w w' := by
  obtain ⟨Ao, co, Ag, cg, Ac, cc, rfl, h1, h2, h3⟩ := h
  obtain ⟨B, hB⟩ : ∃ B, rightB O g x y = B := ⟨_, rfl⟩
  rw [hB]
  by_cases h0 : 0 ≤ x
  · obtain ⟨p, rfl⟩ : ∃ p : Nat, x = p := ⟨x.toNat, by omega⟩
    by_cases hp : p < n
    · obtain ⟨bo, oo, rfl, hbo, c1⟩ := h1.at (openL_get hp)
      have hgl : g.length = n := by have := h2.1; simpa [cellsI] using this
      obtain ⟨bg, og, rfl, hbg, c2⟩ := h2.at (cellsI_at (l := g) (i := p) (by omega))
      have j1 : (p : Int) < (n : Int) := by omega
      have HB : Hid (∀ q : Bool, decide (p ∈ O) = q → ∀ z, g.getD p 0 = z → (q && (z == y)) = B) := Lib.hid (by
        rintro q rfl z rfl
        rw [← hB]; unfold rightB
        rw [show decide ((p : Int) ∈ ints O) = decide (p ∈ O) from decide_eq_decide.2 in_ints]
        rfl)
      obtain ⟨z, hz⟩ : ∃ z, g.getD p 0 = z := ⟨_, rfl⟩
      have hq : decide (p ∈ O) = true ∨ decide (p ∈ O) = false := by cases decide (p ∈ O) <;> simp
      rcases hq with hq | hq
      · have HBB := Lib.hid (HB.out _ hq _ hz)
        rw [hz] at c2
        rw [hq] at c1
        clear HB hB hz hq h1 h2 h3
        go_enter Try.func118, Try.ntmps118
        go_wp2_with fail
        exact bodyPost_ret (v := .bool (z == y)) (by simp [results, Try.results118, go_sem]) rfl ⟨ret_bool (by rw [← HBB.out]; rfl), (by repeat (first | exact Below.refl _ _ | assumption | refine bel_drew ?_ | refine bel_drewN ?_ _ | refine bel_alloc ?_ _ | refine bel_set ?_ (by first | (dsimp only; omega) | (simp; done) | (simp; omega)) _ | refine bel_trans ?_ (by assumption)))⟩
      · have HBB := Lib.hid (HB.out _ hq _ hz)
        rw [hz] at c2
        rw [hq] at c1
        clear HB hB hz hq h1 h2 h3
        go_enter Try.func118, Try.ntmps118
        go_wp2_with fail
        go_ret
        exact ⟨ret_bool (by rw [← HBB.out]; rfl), (by repeat (first | exact Below.refl _ _ | assumption | refine bel_drew ?_ | refine bel_drewN ?_ _ | refine bel_alloc ?_ _ | refine bel_set ?_ (by first | (dsimp only; omega) | (simp; done) | (simp; omega)) _ | refine bel_trans ?_ (by assumption)))⟩
    · have HB : Hid (false = B) := Lib.hid (by rw [← hB]; unfold rightB; rw [decide_eq_false (fun h => hp (hO p (in_ints.1 h)))]; rfl)
      have j1 : ¬ (p : Int) < (n : Int) := by omega
      have j2 : decide ((p : Int) < (n : Int)) = false := decide_eq_false j1
      clear hB h1 h2 h3
      go_enter Try.func118, Try.ntmps118
      go_wp2_with fail
      go_ret
      exact ⟨ret_bool HB.out, (by repeat (first | exact Below.refl _ _ | assumption | refine bel_drew ?_ | refine bel_drewN ?_ _ | refine bel_alloc ?_ _ | refine bel_set ?_ (by first | (dsimp only; omega) | (simp; done) | (simp; omega)) _ | refine bel_trans ?_ (by assumption)))⟩
  · have HB : Hid (false = B) := Lib.hid (by
      rw [← hB]; unfold rightB
      rw [decide_eq_false (fun h => by unfold ints at h; obtain ⟨q, _, e⟩ := List.mem_map.1 h; omega)]; rfl)
    have j0 : decide (0 ≤ x) = false := decide_eq_false h0
    clear hB h1 h2 h3
    go_enter Try.func118, Try.ntmps118
    go_wp2_with fail
    go_ret
    exact ⟨ret_bool HB.out, (by repeat (first | exact Below.refl _ _ | assumption | refine bel_drew ?_ | refine bel_drewN ?_ _ | refine bel_alloc ?_ _ | refine bel_set ?_ (by first | (dsimp only; omega) | (simp; done) | (simp; omega)) _ | refine bel_trans ?_ (by assumption)))⟩
/-- What OpenOne hands back. -/
def GOpen (P : Nat → Prop) (n : Nat) (g : List Int) (O : List Nat) (p : Nat) (cl' : List Nat) (fr' : Nat) (w : World) (e : Ending) (w' : World) : Prop :=
  ∃ V', e = .returned (.tuple #[V', .int .i64 (p : Int), .int .i64 (g.getD p 0), .bool true]) ∧ RefS P w' V' n g (p :: O) cl' fr' ∧ Below w.heap.size w w'
theorem ref06_OpenOne_no (h : RefS P w V n g O cl fr) (hp : pickP cl fr n = none) : Calls Try.prog 117 #[V] w fun e w' => e = .returned (.tuple #[V, .int .i64 0, .int .i64 0, .bool false]) ∧ Below w.heap.size w w' := by
  obtain ⟨Ao, co, Ag, cg, Ac, cc, rfl, h1, h2, h3⟩ := h
  unfold pickP at hp
  by_cases h0 : cl.length ≠ 0
  · rw [if_pos h0] at hp; cases hp
  rw [if_neg h0] at hp
  by_cases h5 : fr < n
  · rw [if_pos h5] at hp; cases hp
  have e0 : cl.length = 0 := by omega
  rw [e0]
  have j1 : (n : Int) ≤ (fr : Int) := by omega
  have j2 : decide ((n : Int) ≤ (fr : Int)) = true := decide_eq_true j1
  clear h1 h2 h3 hp h0 h5 e0
  go_enter Try.func117, Try.ntmps117
  go_wp2_with fail
  exact bodyPost_ret (v := .tuple #[.agg #[.slice Ao n co, .slice Ag n cg, .slice Ac 0 cc, .int .i64 (fr : Int)], .int .i64 0, .int .i64 0, .bool false]) (by simp [results, Try.results117, go_sem]) rfl ⟨rfl, (by repeat (first | exact Below.refl _ _ | assumption | refine bel_drew ?_ | refine bel_drewN ?_ _ | refine bel_alloc ?_ _ | refine bel_set ?_ (by first | (dsimp only; omega) | (simp; done) | (simp; omega)) _ | refine bel_trans ?_ (by assumption)))⟩
end Go.Proofs.Ytdhcmnbajkpjiaa
/-
  The reference's forest in plain Lean: the nodes in the order in which they came, and each one's parent; it tells what the lists tell.
-/
namespace Go.Proofs.Ytdhcmnbajkpjiaa
set_option linter.unusedVariables false
set_option linter.unusedSimpArgs false

/-- The nodes whose parent is x, in the order in which they came. -/
def childN (N : List Nat) (up : List Int) (x : Int) : List Nat := N.filter (fun p => decide (up.getD p 0 = x))
def upN (N : List Nat) (up : List Int) (x : Int) : Int := if 0 ≤ x ∧ x.toNat ∈ N then up.getD x.toNat 0 else -1
def nextN (N : List Nat) (up : List Int) (x : Int) : Int :=
  if 0 ≤ x ∧ x.toNat ∈ N then PC.headD ((childN N up (up.getD x.toNat 0)).drop ((childN N up (up.getD x.toNat 0)).idxOf x.toNat + 1)) else -1
def firstN (l : List Nat) : Int := PC.headD l
/-- The reference's nodes N say the same as the lists. -/
structure NRel (n : Nat) (S : FSt) (N : List Nat) : Prop where
  nd : N.Nodup
  mem : ∀ x, x ∈ N ↔ x ∈ S.O
  root : S.R n = childN N S.up (-1)
  kid : ∀ i, i < n → S.R i = childN N S.up (i : Int)
theorem NRel.none (n : Nat) : NRel n (FSt.new n) [] := ⟨List.nodup_nil, fun x => Iff.rfl, rfl, fun i _ => rfl⟩
variable {n : Nat} {S : FSt} {N : List Nat}
theorem in_nat {L : List Nat} {x : Int} : x ∈ ints L ↔ 0 ≤ x ∧ x.toNat ∈ L := by
  constructor
  · intro h
    unfold ints at h
    obtain ⟨p, hp, rfl⟩ := List.mem_map.1 h
    exact ⟨by omega, by simpa using hp⟩
  · rintro ⟨h0, h1⟩
    obtain ⟨p, rfl⟩ : ∃ p : Nat, x = p := ⟨x.toNat, by omega⟩
    exact in_ints.2 (by simpa using h1)
theorem NRel.is (h : NRel n S N) (x : Int) : decide (0 ≤ PC.place N x) = decide (x ∈ ints S.O) := by
  refine decide_eq_decide.2 ?_
  rw [in_nat, ← h.mem]
  unfold PC.place
  split
  · rename_i h1; exact ⟨fun _ => h1, fun _ => by omega⟩
  · rename_i h1; exact ⟨fun h2 => by omega, fun h2 => absurd h2 h1⟩
theorem NRel.up (h : NRel n S N) (x : Int) : upN N S.up x = parV S.O S.up x := by
  unfold upN parV
  by_cases h1 : x ∈ ints S.O
  · rw [if_pos h1, if_pos (by have := in_nat.1 h1; exact ⟨this.1, (h.mem _).2 this.2⟩)]
  · rw [if_neg h1, if_neg (fun h2 => h1 (in_nat.2 ⟨h2.1, (h.mem _).1 h2.2⟩))]
theorem NRel.kids (h : NRel n S N) (hi : FI n S.up S.O S.cl S.fr S.R) (x : Int) : (if 0 ≤ PC.place N x then childN N S.up x else []) = kidV S.O S.R x := by
  have e := h.is x
  unfold kidV
  by_cases h1 : x ∈ ints S.O
  · rw [if_pos h1, if_pos (of_decide_eq_true (e.trans (decide_eq_true h1)))]
    have h2 := in_nat.1 h1
    have h3 := hi.lt h2.2
    rw [h.kid _ h3, Int.toNat_of_nonneg h2.1]
  · rw [if_neg h1, if_neg (of_decide_eq_false (e.trans (decide_eq_false h1)))]
theorem NRel.row_eq (h : NRel n S N) (hi : FI n S.up S.O S.cl S.fr S.R) {p i : Nat} (hil : i < n + 1) (hp : p ∈ S.R i) : S.R i = childN N S.up (S.up.getD p 0) := by
  rcases hi.pa p i hil hp with ⟨rfl, e⟩ | ⟨h1, _, e⟩
  · rw [e]; exact h.root
  · rw [e]; exact h.kid i h1
theorem NRel.next (h : NRel n S N) (hi : FI n S.up S.O S.cl S.fr S.R) (x : Int) : nextN N S.up x = PC.nextV (n + 1) S.R x := by
  unfold nextN PC.nextV
  by_cases h1 : 0 ≤ x ∧ x.toNat ∈ N
  · rw [if_pos h1]
    have h2 := (h.mem _).1 h1.2
    rcases hr : PC.rowOf (n + 1) S.R x with _ | i
    · obtain ⟨i, hil, hm⟩ := hi.i2 _ h2
      exact absurd ⟨h1.1, hm⟩ (PC.rowOf_none hr i hil)
    · obtain ⟨hil, _, hm, _⟩ := PC.rowOf_some hr
      rw [← h.row_eq hi hil hm]
  · rw [if_neg h1]
    rcases hr : PC.rowOf (n + 1) S.R x with _ | i
    · rfl
    · obtain ⟨hil, h0, hm, _⟩ := PC.rowOf_some hr
      exact absurd ⟨h0, (h.mem _).2 (hi.i1 _ i hil hm)⟩ h1
theorem NRel.len (h : NRel n S N) (hi : FI n S.up S.O S.cl S.fr S.R) : N.length = S.O.length :=
  ((List.perm_ext_iff_of_nodup h.nd hi.s.o1).2 h.mem).length_eq
theorem child_add {N : List Nat} {up : List Int} {p : Nat} {q : Int} (hp : p ∉ N) (hl : p < up.length) (x : Int) : childN (N ++ [p]) (up.set p q) x = childN N up x ++ (if q = x then [p] else []) := by
  unfold childN
  rw [List.filter_append]
  congr 1
  · refine List.filter_congr (fun y hy => ?_)
    rw [getD_setI hl, if_neg (fun e => hp (by rw [← e]; exact hy))]
  · by_cases e : q = x
    · rw [if_pos e, List.filter_cons_of_pos (by rw [getD_setI hl]; simpa using e)]; rfl
    · rw [if_neg e, List.filter_cons_of_neg (by rw [getD_setI hl]; simpa using e)]; rfl
theorem up_add {N : List Nat} {up : List Int} {p : Nat} {q : Int} (hp : p ∉ N) (hl : p < up.length) : (N ++ [p]).map (fun x => (up.set p q).getD x 0) = N.map (fun x => up.getD x 0) ++ [q] := by
  rw [List.map_append]
  congr 1
  · refine List.map_congr_left (fun y hy => ?_)
    rw [getD_setI hl, if_neg (fun e => hp (by rw [← e]; exact hy))]
  · have e := getD_setI (m := q) hl p
    rw [if_pos rfl] at e
    show [(up.set p q).getD p 0] = [q]
    rw [e]
theorem NRel.add (h : NRel n S N) (hi : FI n S.up S.O S.cl S.fr S.R) (hul : S.up.length = n) {p : Nat} {cl' : List Nat} {fr' : Nat} (hp : pickP S.cl S.fr n = some (p, cl', fr')) {i : Nat} {q : Int} (hq : (i = n ∧ q = -1) ∨ (i < n ∧ q = (i : Int))) : NRel n (S.add n i q) (N ++ [p]) := by
  obtain ⟨-, hno, hpn, -⟩ := hi.s.pick hp
  have hN : p ∉ N := fun hm => hno ((h.mem p).1 hm)
  unfold FSt.add
  rw [hp]
  refine ⟨?_, fun x => ?_, ?_, fun j hj => ?_⟩
  · rw [List.nodup_append]
    exact ⟨h.nd, by simp, fun a ha b hb e => by simp at hb; subst hb; subst e; exact hN ha⟩
  · simp [h.mem, or_comm]
  · show PC.updR S.R i (S.R i ++ [p]) n = childN (N ++ [p]) (S.up.set p q) (-1)
    rw [child_add hN (by omega), ← h.root]
    unfold PC.updR
    rcases hq with ⟨rfl, rfl⟩ | ⟨h1, rfl⟩
    · simp
    · rw [if_neg (by omega), if_neg (by omega)]; simp
  · show PC.updR S.R i (S.R i ++ [p]) j = childN (N ++ [p]) (S.up.set p q) (j : Int)
    rw [child_add hN (by omega), ← h.kid j hj]
    unfold PC.updR
    rcases hq with ⟨rfl, rfl⟩ | ⟨h1, rfl⟩
    · rw [if_neg (by omega), if_neg (by omega)]; simp
    · by_cases e : j = i
      · subst e; simp
      · rw [if_neg e, if_neg (by omega)]; simp
theorem cut_erase (r : List Nat) (x : Nat) : PC.cut r x = r.erase x := by
  unfold PC.cut
  rw [List.erase_eq_eraseIdx_of_idxOf (i := r.idxOf x) rfl, List.eraseIdx_eq_take_drop_succ]
theorem cut_filter {r : List Nat} (h : r.Nodup) (x : Nat) : PC.cut r x = r.filter (fun y => y != x) := by
  rw [cut_erase, h.erase_eq_filter]
theorem child_cut {N : List Nat} (hN : N.Nodup) {up : List Int} {p : Nat} (x : Int) : childN (PC.cut N p) up x = if up.getD p 0 = x then PC.cut (childN N up x) p else childN N up x := by
  rw [cut_filter hN]
  unfold childN
  rw [cut_filter (hN.filter _), List.filter_filter, List.filter_filter]
  split
  · refine List.filter_congr (fun y _ => ?_)
    rw [Bool.and_comm]
  · rename_i h1
    refine List.filter_congr (fun y _ => ?_)
    by_cases e : y = p
    · subst e
      have e2 : decide (up.getD y 0 = x) = false := decide_eq_false h1
      rw [e2]; rfl
    · have : (y != p) = true := by simpa using e
      rw [this, Bool.and_true]
theorem NRel.drop (h : NRel n S N) (hi : FI n S.up S.O S.cl S.fr S.R) {p : Nat} (hok : dropOk S.O S.R (p : Int) = true) : NRel n (S.drop n (p : Int)) (PC.cut N p) := by
  unfold FSt.drop
  rw [if_pos hok]
  have e0 : ((p : Int)).toNat = p := by omega
  rw [e0]
  have hpO : p ∈ S.O := by
    unfold dropOk at hok
    simp only [Bool.and_eq_true, decide_eq_true_eq] at hok
    exact in_ints.1 hok.1
  obtain ⟨j, hjl, hj⟩ := hi.i2 p hpO
  have hrow : (j = n ∧ S.up.getD p 0 = -1) ∨ (j < n ∧ S.up.getD p 0 = (j : Int)) := (hi.pa p j hjl hj).imp id (fun h => ⟨h.1, h.2.2⟩)
  have ej : S.row n p = j := by
    unfold FSt.row
    rcases hrow with ⟨h1, h2⟩ | ⟨h1, h2⟩
    · rw [if_pos h2, h1]
    · rw [if_neg (by omega), h2]; omega
  rw [ej]
  refine ⟨?_, fun x => ?_, ?_, fun i hil => ?_⟩
  · rw [cut_erase]; exact h.nd.erase _
  · rw [cut_erase, h.nd.mem_erase_iff, h.mem]
    exact (hi.s.o1.mem_erase_iff).symm
  · show PC.updR S.R j (PC.cut (S.R j) p) n = childN (PC.cut N p) S.up (-1)
    rw [child_cut h.nd]
    unfold PC.updR
    rcases hrow with ⟨rfl, h2⟩ | ⟨h1, h2⟩
    · rw [if_pos rfl, if_pos h2, ← h.root]
    · rw [if_neg (by omega), if_neg (by omega), ← h.root]
  · show PC.updR S.R j (PC.cut (S.R j) p) i = childN (PC.cut N p) S.up (i : Int)
    rw [child_cut h.nd]
    unfold PC.updR
    rcases hrow with ⟨rfl, h2⟩ | ⟨h1, h2⟩
    · rw [if_neg (by omega), if_neg (by omega), ← h.kid i hil]
    · by_cases e : i = j
      · subst e; rw [if_pos rfl, if_pos h2, ← h.kid i hil]
      · rw [if_neg e, if_neg (by omega), ← h.kid i hil]
theorem up_cut (N : List Nat) (up : List Int) (p : Nat) : (PC.cut N p).map (fun x => up.getD x 0) = (N.map (fun x => up.getD x 0)).take (N.idxOf p) ++ (N.map (fun x => up.getD x 0)).drop (N.idxOf p + 1) := by
  unfold PC.cut
  rw [List.map_append, List.map_take, List.map_drop]
end Go.Proofs.Ytdhcmnbajkpjiaa
/-
  append onto a row of the call's own, from a slice that may be nil; also at a step of a region that draws.
-/
namespace Go.Proofs.Ytdhcmnbajkpjiaa
open Go.RowKit
set_option linter.unusedVariables false

/-- The m cells from A on (none: no cell) hold news. -/
def Src (w : World) (A : Option Addr) (m : Nat) (news : List Value) : Prop :=
  news.length = m ∧ (A = none → m = 0) ∧ ∀ ad, A = some ad → ∀ j u, news[j]? = some u → w.cell? (ad.add j) = some u

theorem addr_add (b off j : Nat) : (⟨b, off, none⟩ : Addr).add j = ⟨b, off + j, none⟩ := by unfold Addr.add; split <;> simp_all

section
variable {P : Program} (w : World)
theorem run_append_src (base : Nat) (t ty e : TypeId) (i : TypeInfo) (z : Value) (bytes : Nat) (ht : P.underlying t = some (.slice e)) (hi : P.info? e = some i) (hz : i.zero = some z)
    (hsize : i.size = 1) (hby : i.bytes = bytes) (hzs : z.cells.size = 1) (v : Value) (n : Nat) (xs : List Value) (hown : w.ownsRow base e 1 v n xs)
    (A : Option Addr) (m c : Nat) (news : List Value) (hs : Src w A m news) (h1 : ∀ u ∈ news, u.oneCell' = true)
    (h63 : n + m ≤ maxLen) (hbytes : (n + m) * bytes ≤ 140737488355328) (hbase : base ≤ w.heap.size) :
    ∃ v' w', (Builtin.append_ #[t, t] ty #[v, .slice A m c]).run P w = .ok v' w' ∧ w'.ownsRow base e 1 v' (n + m) (xs ++ news) ∧ w.grownBy w' v.ownBlock ∧ (v'.ownBlock = v.ownBlock ∨ v'.ownBlock = some w.heap.size) := by
  obtain ⟨s1, s2, s3⟩ := hs
  rcases A with _ | ad
  · obtain rfl := s2 rfl
    obtain rfl := List.eq_nil_of_length_eq_zero s1
    refine ⟨v, w, ?_, by simpa using hown, World.grownBy.refl w _, .inl rfl⟩
    rcases hown.2 with ⟨rfl, rfl⟩ | ⟨g, cap, cur, rfl, _, _, hnc, _⟩
    · simp [Builtin.append_, run_underlying ht, sizeOf, typeInfo, hi, Builtin.lenOf, Builtin.firstCells]
    · simp [Builtin.append_, run_underlying ht, sizeOf, typeInfo, hi, Builtin.lenOf, Builtin.firstCells, hnc, storeCells]
  · obtain ⟨v', w', hr, h2, h3, _, h5⟩ := run_append_own_at (P := P) w base t ty e i z 1 bytes ht hi hz hsize hby hzs (by decide) v n xs hown ad m c news (by omega) (s3 ad rfl) h1 h63 hbytes hbase
    exact ⟨v', w', hr, h2, h3, h5⟩

theorem wp_append_src {o : Oper} {a : Act} {K : Act → World → Prop} {Q : Exit → Act → World → Prop} (s x : Operand) (t : TypeId)
    (ho : o.op = .call { callee := .builtin .append, args := #[s, x], argTypes := #[t, t] })
    (base : Nat) (e : TypeId) (i : TypeInfo) (z : Value) (bytes : Nat) (ht : P.underlying t = some (.slice e)) (hi : P.info? e = some i) (hz : i.zero = some z)
    (hsize : i.size = 1) (hby : i.bytes = bytes) (hzs : z.cells.size = 1) (v : Value) (n : Nat) (xs : List Value) (hsv : a.eval s = v) (hown : w.ownsRow base e 1 v n xs)
    (A : Option Addr) (m c : Nat) (news : List Value) (hx : a.eval x = .slice A m c) (hs : Src w A m news) (h1 : ∀ u ∈ news, u.oneCell' = true)
    (h63 : n + m ≤ maxLen) (hbytes : (n + m) * bytes ≤ 140737488355328) (hbase : base ≤ w.heap.size)
    (h : ∀ v' w', w'.ownsRow base e 1 v' (n + m) (xs ++ news) → w.grownBy w' v.ownBlock → (v'.ownBlock = v.ownBlock ∨ v'.ownBlock = some w.heap.size) → K (a.put o.dst v') w') : o.wp P a w K Q := by
  obtain ⟨v', w', hr, h2, h3, h4⟩ := run_append_src (P := P) w base t o.type e i z bytes ht hi hz hsize hby hzs v n xs hown A m c news hs h1 h63 hbytes hbase
  unfold Oper.wp execOp
  simp only [ho, resolve, invoke, builtin, Sem.run_bind, Sem.run_pure, Result.andThen_ok, List.map_toArray, List.map_cons, List.map_nil, hsv, hx, hr]
  exact h v' w' h2 h3 h4

theorem wpList_append_src {ops : Array Oper} {rest : List Oper} {o : Oper} {a : Act} {Q : Exit → Act → World → Prop} (hgd : o.guard = none) (s x : Operand) (t : TypeId)
    (ho : o.op = .call { callee := .builtin .append, args := #[s, x], argTypes := #[t, t] })
    (base : Nat) (e : TypeId) (i : TypeInfo) (z : Value) (bytes : Nat) (ht : P.underlying t = some (.slice e)) (hi : P.info? e = some i) (hz : i.zero = some z)
    (hsize : i.size = 1) (hby : i.bytes = bytes) (hzs : z.cells.size = 1) (v : Value) (n : Nat) (xs : List Value) (hsv : a.eval s = v) (hown : w.ownsRow base e 1 v n xs)
    (A : Option Addr) (m c : Nat) (news : List Value) (hx : a.eval x = .slice A m c) (hs : Src w A m news) (h1 : ∀ u ∈ news, u.oneCell' = true)
    (h63 : n + m ≤ maxLen) (hbytes : (n + m) * bytes ≤ 140737488355328) (hbase : base ≤ w.heap.size)
    (h : ∀ v' w', w'.ownsRow base e 1 v' (n + m) (xs ++ news) → w.grownBy w' v.ownBlock → (v'.ownBlock = v.ownBlock ∨ v'.ownBlock = some w.heap.size) → wpList P ops Q rest (a.put o.dst v') w') : wpList P ops Q (o :: rest) a w :=
  wpList_plain hgd fun _ hK => wp_append_src w s x t ho base e i z bytes ht hi hz hsize hby hzs v n xs hsv hown A m c news hx hs h1 h63 hbytes hbase fun v' w' h2 h3 h4 => hK _ _ (h v' w' h2 h3 h4)

theorem step_append_src {ops : Array Oper} {o : Oper} {a : Act} {K : Act → World → Prop} {Q : Exit → Act → World → Prop} {E : Prop} (hgd : o.guard = none) (s x : Operand) (t : TypeId)
    (ho : o.op = .call { callee := .builtin .append, args := #[s, x], argTypes := #[t, t] })
    (base : Nat) (e : TypeId) (i : TypeInfo) (z : Value) (bytes : Nat) (ht : P.underlying t = some (.slice e)) (hi : P.info? e = some i) (hz : i.zero = some z)
    (hsize : i.size = 1) (hby : i.bytes = bytes) (hzs : z.cells.size = 1) (v : Value) (n : Nat) (xs : List Value) (hsv : a.eval s = v) (hown : w.ownsRow base e 1 v n xs)
    (A : Option Addr) (m c : Nat) (news : List Value) (hx : a.eval x = .slice A m c) (hs : Src w A m news) (h1 : ∀ u ∈ news, u.oneCell' = true)
    (h63 : n + m ≤ maxLen) (hbytes : (n + m) * bytes ≤ 140737488355328) (hbase : base ≤ w.heap.size)
    (h : ∀ v' w', w'.ownsRow base e 1 v' (n + m) (xs ++ news) → w.grownBy w' v.ownBlock → (v'.ownBlock = v.ownBlock ∨ v'.ownBlock = some w.heap.size) → K (a.put o.dst v') w') :
    if Region.wanted o (yielded ops a.tmps) = true then Oper.wp P o a w K Q else E := by
  have hw : Region.wanted o (yielded ops a.tmps) = true := by simp [Region.wanted, hgd]
  rw [if_pos hw]
  exact wp_append_src w s x t ho base e i z bytes ht hi hz hsize hby hzs v n xs hsv hown A m c news hx hs h1 h63 hbytes hbase h
end

theorem ints_one' (xs : List Int) : ∀ u ∈ xs.map (Value.int .i64), u.oneCell' = true := by
  intro u hu
  obtain ⟨x, _, rfl⟩ := List.mem_map.1 hu
  simp [Value.oneCell']
/-- What a slice literal without elements owns. -/
theorem own_empty (w : World) (t : TypeId) : (w.alloc (.cells #[] t)).ownsRow w.heap.size t 1 (.slice (some ⟨w.heap.size, 0, none⟩) 0 0) 0 [] :=
  ⟨rfl, .inr ⟨w.heap.size, 0, #[], rfl, Nat.le_refl _, by show (w.heap.push _)[w.heap.size]? = _; simp, Nat.le_refl _, by unfold maxLen; omega, rfl, rfl⟩⟩
end Go.Proofs.Ytdhcmnbajkpjiaa
/-
  The reference's rows in memory: Place, Of, Row, Beside.
-/
namespace Go.Proofs.Ytdhcmnbajkpjiaa
open Go.RowKit
set_option linter.unusedVariables false
attribute [local go_sem] drewN_alloc drewN_setCell

variable {B : Nat}
/-- A slice value that reads as xs, in a block from B on. -/
def SliceAt (B : Nat) (w : World) (v : Value) (xs : List Int) : Prop := ∃ A n c, v = .slice A n c ∧ IntsFrom B w A n xs ∧ n ≤ c ∧ c ≤ 9223372036854775807
theorem SliceAt.mono {B' : Nat} {w : World} {v : Value} {xs : List Int} (h : SliceAt B w v xs) (hB : B' ≤ B) : SliceAt B' w v xs := by
  obtain ⟨A, n, c, e, h1, h2⟩ := h
  exact ⟨A, n, c, e, h1.mono hB, h2⟩
theorem SliceAt.keep {w w' : World} {v : Value} {xs : List Int} (h : SliceAt B w v xs) (k : Below w.heap.size w w') : SliceAt B w' v xs := by
  obtain ⟨A, n, c, e, h1, h2⟩ := h
  exact ⟨A, n, c, e, h1.keep k, h2⟩
/-- A slice of l slices of ints, whose elements read as these rows. -/
def RowsAt (B : Nat) (w : World) (A : Option Addr) (l : Nat) (R : Nat → List Nat) : Prop :=
  l ≤ 1048576 ∧ ∃ b off, A = some ⟨b, off, none⟩ ∧ (0 < l → b < w.heap.size ∧ B ≤ b) ∧ ∀ i, i < l → ∃ v, w.cell? ⟨b, off + i, none⟩ = some v ∧ SliceAt B w v (ints (R i))
theorem RowsAt.keep {w w' : World} {A : Option Addr} {l : Nat} {R : Nat → List Nat} (h : RowsAt B w A l R) (k : Below w.heap.size w w') : RowsAt B w' A l R := by
  obtain ⟨h0, b, off, e, hb, hc⟩ := h
  refine ⟨h0, b, off, e, fun hl => ⟨Nat.lt_of_lt_of_le (hb hl).1 k.size, (hb hl).2⟩, fun i hi => ?_⟩
  obtain ⟨v, h1, h2⟩ := hc i hi
  exact ⟨v, (k.cell (hb (by omega)).1).trans h1, h2.keep k⟩

theorem place_some {r : List Nat} {x : Int} {k : Nat} (hk : k < r.length) (h : ((r[k] : Nat) : Int) = x) (hf : ∀ j (hj : j < r.length), j < k → ((r[j] : Nat) : Int) ≠ x) : PC.place r x = k := by
  subst h
  unfold PC.place
  rw [if_pos ⟨by omega, by simp⟩, Int.toNat_natCast, PC.place_of hk rfl (fun j hj hlt e => hf j hj hlt (by omega))]
theorem place_none {r : List Nat} {x : Int} (hf : ∀ j (hj : j < r.length), ((r[j] : Nat) : Int) ≠ x) : PC.place r x = -1 := by
  unfold PC.place
  rw [if_neg]
  rintro ⟨h0, hm⟩
  obtain ⟨j, hj, e⟩ := List.mem_iff_getElem.1 hm
  exact hf j hj (by omega)
theorem ints_get {r : List Nat} {k : Nat} (hk : k < r.length) : (ints r).getD k 0 = ((r[k] : Nat) : Int) := by simp [ints, List.getD, hk]

def PlaceRel (r : List Nat) (x : Int) (i : Value) : Prop := ∃ k : Nat, k ≤ r.length ∧ i = .int .i64 k ∧ ∀ j (hj : j < r.length), j < k → ((r[j] : Nat) : Int) ≠ x

theorem ref05_Place (A : Option Addr) (n c : Nat) (r : List Nat) (x : Int) (w : World) (h : IntsAt w A n (ints r)) :
    Calls Try.prog 104 #[.slice A n c, .int .i64 x] w fun e w' => e = .returned (.int .i64 (PC.place r x)) ∧ w = w' := by
  have hl : n = r.length := by have := h.1; rw [ints_len] at this; omega
  subst hl
  have hm : r.length ≤ 9223372036854775807 := h.2.1
  have H := Lib.hid h
  obtain ⟨p, hp⟩ : ∃ p, PC.place r x = p := ⟨_, rfl⟩
  rw [hp]
  have HP := Lib.hid hp
  clear h hp
  go_enter Try.func104, Try.ntmps104
  go_wp2_with fail
  go_loop [5] (fun i => PlaceRel r x i) (fun i => r.length - (intOf i).toNat)
  case atStart => exact ⟨0, Nat.zero_le _, rfl, fun j hj h => absurd h (by omega)⟩
  case round =>
    obtain ⟨k, hk, rfl, hf⟩ := hrel
    have HF := Lib.hid hf
    clear hf
    have g0 : (0 : Int) ≤ (k : Int) := by omega
    by_cases hlt : k < r.length
    · have hlt' : (k : Int) < (r.length : Int) := by omega
      obtain ⟨b, off, rfl, hb, hc⟩ := H.out.2.2 (by omega)
      have x0 := hc k hlt
      rw [ints_get hlt] at x0
      obtain ⟨v, hv⟩ : ∃ v : Nat, r[k] = v := ⟨_, rfl⟩
      rw [hv] at x0
      clear hc
      by_cases hvx : (v : Int) = x
      · have e := place_some hlt (by rw [hv]; exact hvx) HF.out
        rw [HP.out] at e
        have E := Lib.hid e
        have e1 : ((v : Int) == x) = true := by simpa using hvx
        clear e hvx hv
        go_wp2_with fail
        go_ret
        exact ⟨ret_int E.out.symm, rfl⟩
      · have e1 : ((v : Int) == x) = false := by simpa using hvx
        have HV := Lib.hid hv
        have HX := Lib.hid hvx
        clear hv hvx
        go_wp2_with fail
        go_round
        case rel =>
          refine ⟨k + 1, by omega, by go_num, fun j hj hjk => ?_⟩
          by_cases e : j = k
          · subst e; rw [HV.out]; exact HX.out
          · exact HF.out j hj (by omega)
        case measure => simp [intOf]; omega
    · have hkn : k = r.length := by omega
      have e := place_none (fun j hj => HF.out j hj (by omega))
      rw [HP.out] at e
      have E := Lib.hid e
      clear e hkn
      go_wp2_with fail
      go_ret
      exact ⟨ret_int E.out.symm, rfl⟩

theorem place_neg {r : List Nat} {x : Int} : PC.place r x < 0 ↔ ¬ (0 ≤ x ∧ x.toNat ∈ r) := by
  unfold PC.place
  split <;> rename_i h
  · exact ⟨fun hh => by omega, fun hh => absurd h hh⟩
  · exact ⟨fun _ => h, fun _ => by omega⟩

def OfRel (l : Nat) (R : Nat → List Nat) (x : Int) (i : Value) : Prop := ∃ k : Nat, k ≤ l ∧ i = .int .i64 k ∧ ∀ j, j < k → ¬ (0 ≤ x ∧ x.toNat ∈ R j)

theorem ref05_Of (A : Option Addr) (l c : Nat) (R : Nat → List Nat) (x : Int) (w : World) (h : RowsAt B w A l R) :
    Calls Try.prog 103 #[.slice A l c, .int .i64 x] w fun e w' => e = .returned (.int .i64 (PC.ofV l R x)) ∧ w = w' := by
  obtain ⟨hl, b, off, rfl, hb, hc⟩ := h
  have H := Lib.hid hc
  obtain ⟨o, ho⟩ : ∃ o, PC.ofV l R x = o := ⟨_, rfl⟩
  rw [ho]
  have HO := Lib.hid ho
  clear hc hb ho
  go_enter Try.func103, Try.ntmps103
  go_wp2_with fail
  go_loop [5] (fun i => OfRel l R x i) (fun i => l - (intOf i).toNat)
  case atStart => exact ⟨0, Nat.zero_le _, rfl, fun j h => absurd h (by omega)⟩
  case round =>
    obtain ⟨k, hk, rfl, hf⟩ := hrel
    have HF := Lib.hid hf
    clear hf
    have g0 : (0 : Int) ≤ (k : Int) := by omega
    by_cases hlt : k < l
    · have hlt' : (k : Int) < (l : Int) := by omega
      obtain ⟨v, x0, A1, n1, c1, rfl, hi, -⟩ := H.out k hlt
      have P := Lib.hid (ref05_Place A1 n1 c1 (R k) x w hi.1)
      clear hi
      by_cases hp : PC.place (R k) x < 0
      · have hnm := Lib.hid (place_neg.1 hp)
        generalize PC.place (R k) x = p at *
        go_wp2_with fail
        refine P.out.mono ?_
        rintro e w1 ⟨rfl, rfl⟩
        go_wp2_with fail
        go_round
        case rel =>
          refine ⟨k + 1, by omega, by go_num, fun j hjk => ?_⟩
          by_cases e : j = k
          · subst e; exact hnm.out
          · exact HF.out j (by omega)
        case measure => simp [intOf]; omega
      · have hmem : 0 ≤ x ∧ x.toNat ∈ R k := by
          rcases Classical.em (0 ≤ x ∧ x.toNat ∈ R k) with h | h
          · exact h
          · exact absurd (place_neg.2 h) hp
        have e : PC.ofV l R x = k := by
          unfold PC.ofV
          rw [PC.rowOf_first hlt hmem.1 hmem.2 (fun j hj hh => HF.out j hj ⟨hmem.1, hh⟩)]
        rw [HO.out] at e
        have E := Lib.hid e
        have hp' : 0 ≤ PC.place (R k) x := by omega
        generalize PC.place (R k) x = p at *
        clear hmem e hp
        go_wp2_with fail
        refine P.out.mono ?_
        rintro e w1 ⟨rfl, rfl⟩
        go_wp2_with fail
        go_ret
        exact ⟨ret_int E.out.symm, rfl⟩
    · have hkn : k = l := by omega
      have e : PC.ofV l R x = -1 := PC.ofV_none (PC.rowOf_not fun i hi => HF.out i (by omega))
      rw [HO.out] at e
      have E := Lib.hid e
      clear e hkn
      go_wp2_with fail
      go_ret
      exact ⟨ret_int E.out.symm, rfl⟩

/-- A call hands back a slice that reads so; nothing is changed. -/
def TellsInts (B : Nat) (w : World) (xs : List Int) (e : Ending) (w' : World) : Prop := ∃ v, e = .returned v ∧ SliceAt B w v xs ∧ w = w'

theorem ref05_Row (A : Option Addr) (l c : Nat) (R : Nat → List Nat) (i : Int) (w : World) (h : RowsAt B w A l R) :
    Calls Try.prog 106 #[.slice A l c, .int .i64 i] w (TellsInts B w (ints (PC.rowV l R i))) := by
  obtain ⟨hl, b, off, rfl, hb, hc⟩ := h
  by_cases h0 : i < 0
  · rw [PC.rowV_out (by omega)]
    clear hc hb
    go_enter Try.func106, Try.ntmps106
    go_wp2_with fail
    go_ret
    exact ⟨_, rfl, ⟨none, 0, 0, rfl, IntsFrom.nil, by omega, by omega⟩, rfl⟩
  · by_cases h1 : (l : Int) ≤ i
    · rw [PC.rowV_out (by omega)]
      clear hc hb
      go_enter Try.func106, Try.ntmps106
      go_wp2_with fail
      go_ret
      exact ⟨_, rfl, ⟨none, 0, 0, rfl, IntsFrom.nil, by omega, by omega⟩, rfl⟩
    · obtain ⟨k, rfl⟩ : ∃ k : Nat, i = k := ⟨i.toNat, by omega⟩
      have hk : k < l := by omega
      rw [PC.rowV_in hk]
      obtain ⟨v, x0, hs⟩ := hc k hk
      have HS := Lib.hid hs
      have g0 : (0 : Int) ≤ (k : Int) := by omega
      have g1 : (k : Int) < (l : Int) := by omega
      obtain ⟨A1, n1, c1, rfl, hs'⟩ := hs
      clear hc hb hs'
      go_enter Try.func106, Try.ntmps106
      go_wp2_with fail
      go_ret
      exact ⟨_, rfl, HS.out, rfl⟩
end Go.Proofs.Ytdhcmnbajkpjiaa
