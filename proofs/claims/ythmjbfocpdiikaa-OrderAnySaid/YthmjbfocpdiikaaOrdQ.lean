/-
  The reference's Any: an order tried out member by member.
-/
import Derived.Test.YthmjbfocpdiikaaOrdP
namespace Go.Proofs.Ythmjbfocpdiikaa
open Go.RowKit
set_option linter.unusedVariables false
set_option linter.unusedSimpArgs false
attribute [local go_sem] drewN_alloc drewN_setCell

namespace PO
def cut (l : List Mem) (i : Nat) : List Mem := l.take i ++ l.drop (i + 1)
theorem cut_perm {l : List Mem} {i : Nat} (hi : i < l.length) : l.Perm (l.getD i m0 :: cut l i) := by
  have e : l = l.take i ++ l.getD i m0 :: l.drop (i + 1) := by
    rw [getD_at hi, ← List.drop_eq_getElem_cons hi, List.take_append_drop]
  have h2 : (l.take i ++ l.getD i m0 :: l.drop (i + 1)).Perm (l.getD i m0 :: (l.take i ++ l.drop (i + 1))) := List.perm_middle
  rw [← e] at h2
  exact h2
def Can (f : Int) (l : List Mem) : Prop := ∃ p : List Mem, p.Perm l ∧ Runs f p
theorem can_nil {f : Int} : Can f [] := ⟨[], List.Perm.refl _, trivial⟩
theorem can_step {f : Int} {l : List Mem} {i : Nat} (hi : i < l.length) (hn : need (l.getD i m0) ≤ f) (h : Can (f + (l.getD i m0).2.2.1) (cut l i)) : Can f l := by
  obtain ⟨p, hp, hr⟩ := h
  exact ⟨l.getD i m0 :: p, (hp.cons _).trans (cut_perm hi).symm, hn, hr⟩
theorem can_some {f : Int} {l : List Mem} (h0 : 0 < l.length) (h : Can f l) : ∃ i, i < l.length ∧ need (l.getD i m0) ≤ f ∧ Can (f + (l.getD i m0).2.2.1) (cut l i) := by
  obtain ⟨p, hp, hr⟩ := h
  match p, hp, hr with
  | [], hp, _ => rw [← hp.length_eq] at h0; exact absurd h0 (by simp)
  | m :: t, hp, hr =>
    have hm : m ∈ l := hp.mem_iff.1 List.mem_cons_self
    obtain ⟨i, hi, e⟩ := List.mem_iff_getElem.1 hm
    have e2 : l.getD i m0 = m := by rw [getD_at hi, e]
    refine ⟨i, hi, by rw [e2]; exact hr.1, t, ?_, by rw [e2]; exact hr.2⟩
    have h2 := hp.trans (cut_perm hi)
    rw [e2] at h2
    exact (List.perm_cons m).1 h2
theorem cut_len {l : List Mem} {i : Nat} (hi : i < l.length) : (cut l i).length = l.length - 1 := by
  have := (cut_perm hi).length_eq
  simp only [List.length_cons] at this
  omega
theorem cut_ok {l : List Mem} {i : Nat} (hi : i < l.length) (ha : l.all ok = true) : (cut l i).all ok = true := by
  rw [List.all_eq_true] at ha ⊢
  intro m hm
  exact ha m ((cut_perm hi).mem_iff.2 (List.mem_cons_of_mem _ hm))
end PO
theorem MemAt.drop {w : World} {b off n k : Nat} {l : List PO.Mem} (h : MemAt w (some ⟨b, off, none⟩) n l) (hk : k ≤ n) : MemAt w (some ⟨b, off + k * 4, none⟩) (n - k) (l.drop k) := by
  refine ⟨by rw [List.length_drop, h.1], by have := h.2.1; omega, fun t ht => h.2.2.1 t (List.mem_of_mem_drop ht), fun h0 => ?_⟩
  obtain ⟨b', off', e, hb, hc⟩ := h.2.2.2 (by omega)
  obtain ⟨rfl, rfl⟩ : b = b' ∧ off = off' := by simpa using e
  refine ⟨b, off + k * 4, rfl, hb, fun i hi => ?_⟩
  have e2 : (l.drop k).getD i PO.m0 = l.getD (k + i) PO.m0 := by simp [List.getD, List.getElem?_drop]
  rw [e2]
  have := hc (k + i) (by omega)
  rwa [show off + (k + i) * 4 = off + k * 4 + i * 4 by omega] at this
theorem OwnM.mem2 {B : Nat} {w : World} {v : Value} {l : List PO.Mem} (h : OwnM B w v l) (hb : ∀ m ∈ l, MemBd m) : ∃ A c, v = .slice A l.length c ∧ MemAt w A l.length l ∧ l.length ≤ c ∧ c ≤ 9223372036854775807 := by
  obtain ⟨A, c, e, hm⟩ := OwnM.mem h hb
  rcases h.2 with ⟨e2, e3⟩ | ⟨g, cap, cur, e2, _, _, hn, hcm, _⟩
  · have e4 : l = [] := List.eq_nil_of_length_eq_zero (by omega)
    rw [e4]
    exact ⟨none, 0, e2, MemAt.nil, by simp, by omega⟩
  · rw [e2] at e; cases e
    exact ⟨_, _, e2, hm, hn, by unfold maxLen at hcm; omega⟩
def GivesAny (f : Int) (l : List PO.Mem) (w : World) (e : Ending) (w' : World) : Prop := ∃ r, e = .returned (.bool r) ∧ (r = true ↔ PO.Can f l) ∧ Below w.heap.size w w'
def AnyRel (w : World) (f : Int) (n : Nat) (l : List PO.Mem) (i : Value) (wr : World) : Prop :=
  ∃ k : Nat, k ≤ n ∧ i = .int .i64 k ∧ (∀ j, j < k → ¬ (PO.need (l.getD j PO.m0) ≤ f ∧ PO.Can (f + (l.getD j PO.m0).2.2.1) (PO.cut l j))) ∧ Below w.heap.size w wr
theorem any_zero (A : Option Addr) (c : Nat) (f : Int) (w : World) : Calls Try.prog 52 #[.int .i64 f, .slice A 0 c] w (GivesAny f [] w) := by
  have HG : GivesAny f [] w (.returned (.bool true)) w := ⟨true, rfl, ⟨fun _ => PO.can_nil, fun _ => rfl⟩, Below.refl _ _⟩
  replace HG := Lib.hid HG
  go_enter Try.func52, Try.ntmps52
  go_wp2_with fail
  go_ret
  exact HG.out

set_option maxRecDepth 100000 in
set_option maxHeartbeats 16000000 in
theorem any_step {A : Option Addr} {n : Nat} {l : List PO.Mem} (c : Nat) (f : Int) {w : World} (h : MemAt w A (n + 1) l) (hn : n ≤ 100) (hc : n + 1 ≤ c) (hcb : c ≤ 9223372036854775807) (ha : l.all PO.ok = true) (f0 : 0 ≤ f) (f1 : f + 1048576 * ((n : Int) + 1) ≤ 1099511627776)
    (REC : ∀ (A' : Option Addr) (l' : List PO.Mem) (c' : Nat) (f' : Int) (w' : World), MemAt w' A' n l' → n ≤ c' → c' ≤ 9223372036854775807 → l'.all PO.ok = true → 0 ≤ f' → f' + 1048576 * (n : Int) ≤ 1099511627776 → Calls Try.prog 52 #[.int .i64 f', .slice A' n c'] w' (GivesAny f' l' w')) :
    Calls Try.prog 52 #[.int .i64 f, .slice A (n + 1) c] w (GivesAny f l w) := by
  have hl := h.1
  obtain ⟨b, off, rfl, hb, hcs⟩ := h.2.2.2 (by omega)
  have HCS := Lib.hid hcs
  have HBD := Lib.hid h.2.2.1
  have HFA := Lib.hid ha
  have HRC := Lib.hid REC
  have HS1 : Hid (∀ k W, Below w.heap.size w W → k ≤ n + 1 → SrcS 4 W (some ⟨b, off, none⟩) k (cellsM (l.take k))) := Lib.hid (fun k W hW hk => srcM_of ((h.keep hW).take hk))
  have HS2 : Hid (∀ k W, Below w.heap.size w W → k ≤ n → SrcS 4 W (some ⟨b, off + (k + 1) * 4, none⟩) (n - k) (cellsM (l.drop (k + 1)))) := Lib.hid (fun k W hW hk => by
    have := srcM_of ((h.keep hW).drop (k := k + 1) (by omega))
    rwa [show n + 1 - (k + 1) = n - k by omega] at this)
  have HS3 : Hid (∀ k W, n + 1 ≤ k → SrcS 4 W (some ⟨b, off, none⟩) 0 (cellsM (l.drop k))) := Lib.hid (fun k W hk => by
    rw [List.drop_eq_nil_of_le (by omega)]
    exact ⟨by simp [cellsM], (fun e => by cases e), fun ad e j u hu => by simp [cellsM] at hu⟩)
  have HYES : Hid (∀ k W, k < n + 1 → PO.need (l.getD k PO.m0) ≤ f → PO.Can (f + (l.getD k PO.m0).2.2.1) (PO.cut l k) → Below w.heap.size w W → GivesAny f l w (.returned (.bool true)) W) := Lib.hid (fun k W hk hn' hcan hW => ⟨true, rfl, ⟨fun _ => PO.can_step (by omega) hn' hcan, fun _ => rfl⟩, hW⟩)
  have HNO : Hid (∀ W, (∀ j, j < n + 1 → ¬ (PO.need (l.getD j PO.m0) ≤ f ∧ PO.Can (f + (l.getD j PO.m0).2.2.1) (PO.cut l j))) → Below w.heap.size w W → GivesAny f l w (.returned (.bool false)) W) := Lib.hid (fun W hno hW => ⟨false, rfl, ⟨(fun h => by cases h), fun hcan => by
    obtain ⟨i, hi, h1, h2⟩ := PO.can_some (by omega) hcan
    exact absurd ⟨h1, h2⟩ (hno i (by omega))⟩, hW⟩)
  have e0 : ((n + 1 : Nat) : Int) = (n : Int) + 1 := by omega
  have z0 : ((n : Int) + 1 == 0) = false := by simp; omega
  have z1 : ¬ (n : Int) + 1 = 0 := by omega
  clear h hcs ha REC
  go_enter Try.func52, Try.ntmps52
  go_wp2_with fail
  go_loopw [5] (fun i wr => AnyRel w f (n + 1) l i wr) (fun i _ => n + 1 - (intOf i).toNat)
  case atStart => exact ⟨0, Nat.zero_le _, rfl, fun j hj => absurd hj (by omega), Below.refl _ _⟩
  case round =>
    obtain ⟨k, hk, rfl, hno, hbel⟩ := hrel
    have HN := Lib.hid hno
    clear hno
    by_cases hlt : k < n + 1
    · have bd : MemBd (l.getD k PO.m0) := by rw [PO.getD_at (by omega)]; exact HBD.out _ (List.getElem_mem _)
      have hok := PO.ok_get HFA.out (show k < l.length by omega)
      have HXM : Hid (∀ W, Below w.heap.size w W → MemCells W b (off + k * 4) (l.getD k PO.m0)) := Lib.hid (fun W hW => (HCS.out k hlt).keep hW hb)
      have HNX : Hid (¬ (PO.need (l.getD k PO.m0) ≤ f ∧ PO.Can (f + (l.getD k PO.m0).2.2.1) (PO.cut l k)) → ∀ j, j < k + 1 → ¬ (PO.need (l.getD j PO.m0) ≤ f ∧ PO.Can (f + (l.getD j PO.m0).2.2.1) (PO.cut l j))) := Lib.hid (fun hq j hj => by
        rcases Nat.lt_or_ge j k with h1 | h1
        · exact HN.out j h1
        · obtain rfl : j = k := by omega
          exact hq)
      have HYK : Hid (PO.need (l.getD k PO.m0) ≤ f → PO.Can (f + (l.getD k PO.m0).2.2.1) (PO.cut l k) → ∀ W, Below w.heap.size w W → GivesAny f l w (.returned (.bool true)) W) := Lib.hid (fun h1 h2 W hW => HYES.out k W hlt h1 h2 hW)
      obtain ⟨m, hmm⟩ : ∃ m, l.getD k PO.m0 = m := ⟨_, rfl⟩
      rw [hmm] at bd hok HXM HNX HYK
      have hh := PO.ok_held hok
      have KN := Lib.hid (fun W => ref26_Need m.2.1 m.2.2.1 m.2.2.2 W bd.2.1 bd.2.2.1 bd.2.2.2)
      have en : PA.need m.2.1 m.2.2.1 m.2.2.2 = PO.need m := rfl
      rw [en] at KN
      obtain ⟨nd, hne⟩ : ∃ nd, PO.need m = nd := ⟨_, rfl⟩
      rw [hne] at KN HNX HYK
      have hS : Hid (∀ W : World, Below w.heap.size w W → (fun W : World => W.cell? ⟨b, off + k * 4 + 1, none⟩ = some (.int .i64 m.2.1) ∧ W.cell? ⟨b, off + k * 4 + 2, none⟩ = some (.int .i64 m.2.2.1) ∧ W.cell? ⟨b, off + k * 4 + 3, none⟩ = some (.int .i64 m.2.2.2)) W) := Lib.hid (fun W hW => ⟨(HXM.out W hW).2.1, (HXM.out W hW).2.2.1, (HXM.out W hW).2.2.2⟩)
      have j0 : (0 : Int) ≤ (k : Int) := by omega
      have j1 : (k : Int) < (n : Int) + 1 := by omega
      have j2 : (0 : Int) ≤ (k : Int) + 1 := by omega
      have j3 : (k : Int) + 1 ≤ (n : Int) + 1 := by omega
      have j4 : (k : Int) ≤ (c : Int) := by omega
      have j5 : (n : Int) + 1 ≤ (c : Int) := by omega
      have j6 : ((k : Int) + 1).toNat = k + 1 := by omega
      have j7 : k < n + 1 := hlt
      have j8 : k ≤ c := by omega
      have j9 : (k : Int) ≤ (k : Int) + 1 := by omega
      have wk : IntKind.i64.wrap ((k : Int) + 1) = (k : Int) + 1 := by rw [IntKind.wrap_i64]; omega
      have wf : IntKind.i64.wrap (f + m.2.2.1) = f + m.2.2.1 := IntWalk.i64_in _ (by omega)
      clear hmm bd hok hne en
      by_cases hq : nd ≤ f
      · have qf : decide (nd ≤ f) = true := decide_eq_true hq
        have HQ := Lib.hid hq
        have HCUT : Hid ((PO.cut l k).length = n ∧ (PO.cut l k).all PO.ok = true ∧ (∀ x ∈ PO.cut l k, MemBd x)) := Lib.hid ⟨by rw [PO.cut_len (by omega)]; omega, PO.cut_ok (by omega) HFA.out, fun x hx => HBD.out x ((PO.cut_perm (show k < l.length by omega)).mem_iff.2 (List.mem_cons_of_mem _ hx))⟩
        have hlt1 : (l.take k).length = k := by rw [List.length_take]; omega
        have hld1 : (l.drop (k + 1)).length = n - k := by rw [List.length_drop]; omega
        have HCT : Hid (PO.cut l k = l.take k ++ l.drop (k + 1)) := Lib.hid rfl
        by_cases hck : c ≤ k + 1
        · have q5 : (c : Int) ≤ (k : Int) + 1 := by omega
          have hnk : k = n := by omega
          have hcc : c = k + 1 := by omega
          subst hnk
          subst hcc
          go_wp2_with fail
          refine wp_region_held_drew (S := (fun W : World => W.cell? ⟨b, off + k * 4 + 1, none⟩ = some (.int .i64 m.2.1) ∧ W.cell? ⟨b, off + k * 4 + 2, none⟩ = some (.int .i64 m.2.2.1) ∧ W.cell? ⟨b, off + k * 4 + 3, none⟩ = some (.int .i64 m.2.2.2))) (by kernel_rfl) ?_ (fun hHeld => ?_)
          focus ((try dsimp only); exact hS.out _ (by repeat (first | exact Below.refl _ _ | assumption | refine bel_drew ?_ | refine bel_drewN ?_ _ | refine bel_alloc ?_ _ | refine bel_trans ?_ (by assumption))))
          refine tk_yes 0 (v := ?_) rfl (by kernel_rfl) (by kernel_rfl) (by kernel_rfl) (fun _ _ _ h => h) (by kernel_rfl) (by assumption) ?_ ?_; rotate_left; (focus (intro w hSw; (try dsimp only at hSw); go_simp; (first | done | (with_reducible rfl)))); (try simp only [Act.put, List.setIfInBounds_toArray, List.set_cons_zero, List.set_cons_succ])
          refine tk_yes 1 (v := ?_) rfl (by kernel_rfl) (by kernel_rfl) (by kernel_rfl) (fun _ _ _ h => h) (by kernel_rfl) (by assumption) ?_ ?_; rotate_left; (focus (intro w hSw; (try dsimp only at hSw); go_simp; (first | done | (with_reducible rfl)))); (try simp only [Act.put, List.setIfInBounds_toArray, List.set_cons_zero, List.set_cons_succ])
          refine tk_yes 2 (v := ?_) rfl (by kernel_rfl) (by kernel_rfl) (by kernel_rfl) (fun _ _ _ h => h) (by kernel_rfl) (by assumption) ?_ ?_; rotate_left; (focus (intro w hSw; (try dsimp only at hSw); go_simp; (first | done | (with_reducible rfl)))); (try simp only [Act.put, List.setIfInBounds_toArray, List.set_cons_zero, List.set_cons_succ])
          refine tk_yes 3 (v := ?_) rfl (by kernel_rfl) (by kernel_rfl) (by kernel_rfl) (fun _ _ _ h => h) (by kernel_rfl) (by assumption) ?_ ?_; rotate_left; (focus (intro w hSw; (try dsimp only at hSw); go_simp; (first | done | (with_reducible rfl)))); (try simp only [Act.put, List.setIfInBounds_toArray, List.set_cons_zero, List.set_cons_succ])
          refine tk_yes 4 (v := ?_) rfl (by kernel_rfl) (by kernel_rfl) (by kernel_rfl) (fun _ _ _ h => h) (by kernel_rfl) (by assumption) ?_ ?_; rotate_left; (focus (intro w hSw; (try dsimp only at hSw); go_simp; (first | done | (with_reducible rfl)))); (try simp only [Act.put, List.setIfInBounds_toArray, List.set_cons_zero, List.set_cons_succ])
          refine tk_yes 6 (v := ?_) rfl (by kernel_rfl) (by kernel_rfl) (by kernel_rfl) (fun _ _ _ h => h) (by kernel_rfl) (by assumption) ?_ ?_; rotate_left; (focus (intro w hSw; (try dsimp only at hSw); go_simp; (first | done | (with_reducible rfl)))); (try simp only [Act.put, List.setIfInBounds_toArray, List.set_cons_zero, List.set_cons_succ])
          refine tk_call 5 rfl (by kernel_rfl) (by kernel_rfl) (fun KW hKW => ?_); go_simp; go_at_call 23; refine (KN.out _).mono ?_; rintro e u1 ⟨rfl, d1⟩; have t1 : Below w.heap.size w u1 := (by exact bel_trans (bel_drew hbel) d1); have OE : Hid (OwnM u1.heap.size (u1.alloc (.cells #[] 34)) (.slice (some ⟨u1.heap.size, 0, none⟩) 0 0) []) := Lib.hid (own_emptyS 4 u1 _); refine hKW.out _ _ ?_ (fun hHeld => ?_); (focus ((try dsimp only); exact hS.out _ (by repeat (first | exact Below.refl _ _ | assumption | refine bel_drew ?_ | refine bel_drewN ?_ _ | refine bel_alloc ?_ _ | refine bel_trans ?_ (by assumption))))); clear hKW KW; (try simp only [Act.put, List.setIfInBounds_toArray, List.set_cons_zero, List.set_cons_succ])
          refine tk_yes 7 (v := ?_) rfl (by kernel_rfl) (by kernel_rfl) (by kernel_rfl) (fun _ _ _ h => h) (by kernel_rfl) (by assumption) ?_ ?_; rotate_left; (focus (intro w hSw; (try dsimp only at hSw); go_simp; (first | done | (with_reducible rfl)))); (try simp only [Act.put, List.setIfInBounds_toArray, List.set_cons_zero, List.set_cons_succ])
          refine tk_yes 8 (v := ?_) rfl (by kernel_rfl) (by kernel_rfl) (by kernel_rfl) (fun _ _ _ h => h) (by kernel_rfl) (by assumption) ?_ ?_; rotate_left; (focus (intro w hSw; (try dsimp only at hSw); go_simp; (first | done | (with_reducible rfl)))); (try simp only [Act.put, List.setIfInBounds_toArray, List.set_cons_zero, List.set_cons_succ])
          refine tk_yes 9 (v := ?_) rfl (by kernel_rfl) (by kernel_rfl) (by kernel_rfl) (fun _ _ _ h => h) (by kernel_rfl) (by assumption) ?_ ?_; rotate_left; (focus (intro w hSw; (try dsimp only at hSw); go_simp; (first | done | (with_reducible rfl)))); (try simp only [Act.put, List.setIfInBounds_toArray, List.set_cons_zero, List.set_cons_succ])
          refine tk_yes 10 (v := ?_) rfl (by kernel_rfl) (by kernel_rfl) (by kernel_rfl) (fun _ _ _ h => h) (by kernel_rfl) (by assumption) ?_ ?_; rotate_left; (focus (intro w hSw; (try dsimp only at hSw); go_simp; (first | done | (with_reducible rfl)))); (try simp only [Act.put, List.setIfInBounds_toArray, List.set_cons_zero, List.set_cons_succ])
          refine tk_yes 11 (v := ?_) rfl (by kernel_rfl) (by kernel_rfl) (by kernel_rfl) (fun _ _ _ h => h) (by kernel_rfl) (by assumption) ?_ ?_; rotate_left; (focus (intro w hSw; (try dsimp only at hSw); go_simp; (first | done | (with_reducible rfl)))); (try simp only [Act.put, List.setIfInBounds_toArray, List.set_cons_zero, List.set_cons_succ])
          refine tk_yes 12 (v := ?_) rfl (by kernel_rfl) (by kernel_rfl) (by kernel_rfl) (fun _ _ _ h => h) (by kernel_rfl) (by assumption) ?_ ?_; rotate_left; (focus (intro w hSw; (try dsimp only at hSw); go_simp; (first | done | (with_reducible rfl)))); (try simp only [Act.put, List.setIfInBounds_toArray, List.set_cons_zero, List.set_cons_succ])
          refine tk_yes 13 (v := ?_) rfl (by kernel_rfl) (by kernel_rfl) (by kernel_rfl) (fun _ _ _ h => h) (by kernel_rfl) (by assumption) ?_ ?_; rotate_left; (focus (intro w hSw; (try dsimp only at hSw); go_simp; (first | done | (with_reducible rfl)))); (try simp only [Act.put, List.setIfInBounds_toArray, List.set_cons_zero, List.set_cons_succ])
          refine tk_yes 14 (v := ?_) rfl (by kernel_rfl) (by kernel_rfl) (by kernel_rfl) (fun _ _ _ h => h) (by kernel_rfl) (by assumption) ?_ ?_; rotate_left; (focus (intro w hSw; (try dsimp only at hSw); go_simp; (first | done | (with_reducible rfl)))); (try simp only [Act.put, List.setIfInBounds_toArray, List.set_cons_zero, List.set_cons_succ])
          refine tk_yes 15 (v := ?_) rfl (by kernel_rfl) (by kernel_rfl) (by kernel_rfl) (fun _ _ _ h => h) (by kernel_rfl) (by assumption) ?_ ?_; rotate_left; (focus (intro w hSw; (try dsimp only at hSw); go_simp; (first | done | (with_reducible rfl)))); (try simp only [Act.put, List.setIfInBounds_toArray, List.set_cons_zero, List.set_cons_succ])
          refine tk_yes 16 (v := ?_) rfl (by kernel_rfl) (by kernel_rfl) (by kernel_rfl) (fun _ _ _ h => h) (by kernel_rfl) (by assumption) ?_ ?_; rotate_left; (focus (intro w hSw; (try dsimp only at hSw); go_simp; (first | done | (with_reducible rfl)))); (try simp only [Act.put, List.setIfInBounds_toArray, List.set_cons_zero, List.set_cons_succ])
          refine tk_yes 18 (v := ?_) rfl (by kernel_rfl) (by kernel_rfl) (by kernel_rfl) (fun _ _ _ h => h) (by kernel_rfl) (by assumption) ?_ ?_; rotate_left; (focus (intro w hSw; (try dsimp only at hSw); go_simp; (first | done | (with_reducible rfl)))); (try simp only [Act.put, List.setIfInBounds_toArray, List.set_cons_zero, List.set_cons_succ])
          refine tk_yes 19 (v := ?_) rfl (by kernel_rfl) (by kernel_rfl) (by kernel_rfl) (fun _ _ _ h => h) (by kernel_rfl) (by assumption) ?_ ?_; rotate_left; (focus (intro w hSw; (try dsimp only at hSw); go_simp; (first | done | (with_reducible rfl)))); (try simp only [Act.put, List.setIfInBounds_toArray, List.set_cons_zero, List.set_cons_succ])
          refine tk_yes 20 (v := ?_) rfl (by kernel_rfl) (by kernel_rfl) (by kernel_rfl) (fun _ _ _ h => h) (by kernel_rfl) (by assumption) ?_ ?_; rotate_left; (focus (intro w hSw; (try dsimp only at hSw); go_simp; (first | done | (with_reducible rfl)))); (try simp only [Act.put, List.setIfInBounds_toArray, List.set_cons_zero, List.set_cons_succ])
          refine tk_yes 22 (v := ?_) rfl (by kernel_rfl) (by kernel_rfl) (by kernel_rfl) (fun _ _ _ h => h) (by kernel_rfl) (by assumption) ?_ ?_; rotate_left; (focus (intro w hSw; (try dsimp only at hSw); go_simp; (first | done | (with_reducible rfl)))); (try simp only [Act.put, List.setIfInBounds_toArray, List.set_cons_zero, List.set_cons_succ])
          refine tk_yes 23 (v := ?_) rfl (by kernel_rfl) (by kernel_rfl) (by kernel_rfl) (fun _ _ _ h => h) (by kernel_rfl) (by assumption) ?_ ?_; rotate_left; (focus (intro w hSw; (try dsimp only at hSw); go_simp; (first | done | (with_reducible rfl)))); (try simp only [Act.put, List.setIfInBounds_toArray, List.set_cons_zero, List.set_cons_succ])
          refine tk_yes 24 (v := ?_) rfl (by kernel_rfl) (by kernel_rfl) (by kernel_rfl) (fun _ _ _ h => h) (by kernel_rfl) (by assumption) ?_ ?_; rotate_left; (focus (intro w hSw; (try dsimp only at hSw); go_simp; (first | done | (with_reducible rfl)))); (try simp only [Act.put, List.setIfInBounds_toArray, List.set_cons_zero, List.set_cons_succ])
          refine tk_yes 25 (v := ?_) rfl (by kernel_rfl) (by kernel_rfl) (by kernel_rfl) (fun _ _ _ h => h) (by kernel_rfl) (by assumption) ?_ ?_; rotate_left; (focus (intro w hSw; (try dsimp only at hSw); go_simp; (first | done | (with_reducible rfl)))); (try simp only [Act.put, List.setIfInBounds_toArray, List.set_cons_zero, List.set_cons_succ])
          refine tk_call 17 rfl (by kernel_rfl) (by kernel_rfl) (fun KW hKW => ?_); go_simp; refine hKW.out _ _ ?_ (fun hHeld => ?_); (focus ((try dsimp only); exact hS.out _ (by repeat (first | exact Below.refl _ _ | assumption | refine bel_drew ?_ | refine bel_drewN ?_ _ | refine bel_alloc ?_ _ | refine bel_trans ?_ (by assumption))))); clear hKW KW; (try simp only [Act.put, List.setIfInBounds_toArray, List.set_cons_zero, List.set_cons_succ])
          refine tk_call 21 rfl (by kernel_rfl) (by kernel_rfl) (fun KW hKW => ?_); refine app_operM (.tmp 32) (.tmp 35) rfl u1.heap.size _ [] rfl OE.out (some ⟨b, off, none⟩) k _ (l.take k) rfl (HS1.out k _ (bel_alloc t1 _) (by omega)) (by simp; omega) (by simp) ?_; intro v5 w5 ho5 hb5; rw [List.nil_append] at ho5; replace ho5 := Lib.hid ho5; have t5 : Below w.heap.size w w5 := bel_trans' (bel_alloc t1 _) hb5 t1.size; have s5 : u1.heap.size ≤ w5.heap.size := (by have := hb5.size; simp at this; omega); refine hKW.out _ _ ?_ (fun hHeld => ?_); (focus ((try dsimp only); exact hS.out _ (by repeat (first | exact Below.refl _ _ | assumption | refine bel_drew ?_ | refine bel_drewN ?_ _ | refine bel_alloc ?_ _ | refine bel_trans ?_ (by assumption))))); clear hKW KW; (try simp only [Act.put, List.setIfInBounds_toArray, List.set_cons_zero, List.set_cons_succ])
          refine tk_call 26 rfl (by kernel_rfl) (by kernel_rfl) (fun KW hKW => ?_); refine app_operM (.tmp 36) (.tmp 40) rfl u1.heap.size _ (l.take k) rfl ho5.out (some ⟨b, off, none⟩) 0 _ (l.drop (k + 1)) rfl (HS3.out (k + 1) _ (by omega)) (by rw [hlt1]; omega) s5 ?_; intro v6 w6 ho6 hb6; rw [← HCT.out] at ho6; have t6 : Below w.heap.size w w6 := bel_trans' t5 hb6 t1.size; obtain ⟨A6, c6, rfl, hm6, hc6, hcb6⟩ := OwnM.mem2 ho6 HCUT.out.2.2; rw [HCUT.out.1] at hm6 hc6 ⊢; have KR := Lib.hid (HRC.out A6 (PO.cut l k) c6 (f + m.2.2.1) w6 hm6 hc6 hcb6 HCUT.out.2.1 (by omega) (by omega)); clear ho6 hm6 hc6 hcb6; refine hKW.out _ _ ?_ (fun hHeld => ?_); (focus ((try dsimp only); exact hS.out _ (by repeat (first | exact Below.refl _ _ | assumption | refine bel_drew ?_ | refine bel_drewN ?_ _ | refine bel_alloc ?_ _ | refine bel_trans ?_ (by assumption))))); clear hKW KW; (try simp only [Act.put, List.setIfInBounds_toArray, List.set_cons_zero, List.set_cons_succ])
          refine tk_call 27 rfl (by kernel_rfl) (by kernel_rfl) (fun KW hKW => ?_); go_simp; go_at_call 52; refine KR.out.mono ?_; rintro e u7 ⟨r, rfl, hr, d7⟩; have t7 : Below w.heap.size w u7 := bel_trans t6 d7; replace hr := Lib.hid hr; refine hKW.out _ _ ?_ (fun hHeld => ?_); (focus ((try dsimp only); exact hS.out _ (by repeat (first | exact Below.refl _ _ | assumption | refine bel_drew ?_ | refine bel_drewN ?_ _ | refine bel_alloc ?_ _ | refine bel_trans ?_ (by assumption))))); clear hKW KW; (try simp only [Act.put, List.setIfInBounds_toArray, List.set_cons_zero, List.set_cons_succ])
          refine tk_yes 28 (v := ?_) rfl (by kernel_rfl) (by kernel_rfl) (by kernel_rfl) (fun _ _ _ h => h) (by kernel_rfl) (by assumption) ?_ ?_; rotate_left; (focus (intro w hSw; (try dsimp only at hSw); go_simp; (first | done | (with_reducible rfl)))); (try simp only [Act.put, List.setIfInBounds_toArray, List.set_cons_zero, List.set_cons_succ])
          refine wpAnyH_done (by kernel_rfl) ?_ _
          cases r with
          | true =>
            have HFIN := Lib.hid (HYK.out HQ.out (hr.out.1 rfl) u7 t7)
            go_wp2_with fail
            go_ret
            exact HFIN.out
          | false =>
            have HE := Lib.hid (HNX.out (fun h => by have := hr.out.2 h.2; cases this))
            go_wp2_with fail
            go_roundw
            case rel => exact ⟨k + 1, by omega, by go_num, HE.out, t7⟩
            case measure => simp [intOf] <;> omega

        · have q5 : ¬ (c : Int) ≤ (k : Int) + 1 := by omega
          have q6 : (k : Int) + 1 < (c : Int) := by omega
          have q7 : k + 1 < c := by omega
          have q8 : ¬ c = k + 1 := by omega
          go_wp2_with fail
          refine wp_region_held_drew (S := (fun W : World => W.cell? ⟨b, off + k * 4 + 1, none⟩ = some (.int .i64 m.2.1) ∧ W.cell? ⟨b, off + k * 4 + 2, none⟩ = some (.int .i64 m.2.2.1) ∧ W.cell? ⟨b, off + k * 4 + 3, none⟩ = some (.int .i64 m.2.2.2))) (by kernel_rfl) ?_ (fun hHeld => ?_)
          focus ((try dsimp only); exact hS.out _ (by repeat (first | exact Below.refl _ _ | assumption | refine bel_drew ?_ | refine bel_drewN ?_ _ | refine bel_alloc ?_ _ | refine bel_trans ?_ (by assumption))))
          refine tk_yes 0 (v := ?_) rfl (by kernel_rfl) (by kernel_rfl) (by kernel_rfl) (fun _ _ _ h => h) (by kernel_rfl) (by assumption) ?_ ?_; rotate_left; (focus (intro w hSw; (try dsimp only at hSw); go_simp; (first | done | (with_reducible rfl)))); (try simp only [Act.put, List.setIfInBounds_toArray, List.set_cons_zero, List.set_cons_succ])
          refine tk_yes 1 (v := ?_) rfl (by kernel_rfl) (by kernel_rfl) (by kernel_rfl) (fun _ _ _ h => h) (by kernel_rfl) (by assumption) ?_ ?_; rotate_left; (focus (intro w hSw; (try dsimp only at hSw); go_simp; (first | done | (with_reducible rfl)))); (try simp only [Act.put, List.setIfInBounds_toArray, List.set_cons_zero, List.set_cons_succ])
          refine tk_yes 2 (v := ?_) rfl (by kernel_rfl) (by kernel_rfl) (by kernel_rfl) (fun _ _ _ h => h) (by kernel_rfl) (by assumption) ?_ ?_; rotate_left; (focus (intro w hSw; (try dsimp only at hSw); go_simp; (first | done | (with_reducible rfl)))); (try simp only [Act.put, List.setIfInBounds_toArray, List.set_cons_zero, List.set_cons_succ])
          refine tk_yes 3 (v := ?_) rfl (by kernel_rfl) (by kernel_rfl) (by kernel_rfl) (fun _ _ _ h => h) (by kernel_rfl) (by assumption) ?_ ?_; rotate_left; (focus (intro w hSw; (try dsimp only at hSw); go_simp; (first | done | (with_reducible rfl)))); (try simp only [Act.put, List.setIfInBounds_toArray, List.set_cons_zero, List.set_cons_succ])
          refine tk_yes 4 (v := ?_) rfl (by kernel_rfl) (by kernel_rfl) (by kernel_rfl) (fun _ _ _ h => h) (by kernel_rfl) (by assumption) ?_ ?_; rotate_left; (focus (intro w hSw; (try dsimp only at hSw); go_simp; (first | done | (with_reducible rfl)))); (try simp only [Act.put, List.setIfInBounds_toArray, List.set_cons_zero, List.set_cons_succ])
          refine tk_yes 6 (v := ?_) rfl (by kernel_rfl) (by kernel_rfl) (by kernel_rfl) (fun _ _ _ h => h) (by kernel_rfl) (by assumption) ?_ ?_; rotate_left; (focus (intro w hSw; (try dsimp only at hSw); go_simp; (first | done | (with_reducible rfl)))); (try simp only [Act.put, List.setIfInBounds_toArray, List.set_cons_zero, List.set_cons_succ])
          refine tk_call 5 rfl (by kernel_rfl) (by kernel_rfl) (fun KW hKW => ?_); go_simp; go_at_call 23; refine (KN.out _).mono ?_; rintro e u1 ⟨rfl, d1⟩; have t1 : Below w.heap.size w u1 := (by exact bel_trans (bel_drew hbel) d1); have OE : Hid (OwnM u1.heap.size (u1.alloc (.cells #[] 34)) (.slice (some ⟨u1.heap.size, 0, none⟩) 0 0) []) := Lib.hid (own_emptyS 4 u1 _); refine hKW.out _ _ ?_ (fun hHeld => ?_); (focus ((try dsimp only); exact hS.out _ (by repeat (first | exact Below.refl _ _ | assumption | refine bel_drew ?_ | refine bel_drewN ?_ _ | refine bel_alloc ?_ _ | refine bel_trans ?_ (by assumption))))); clear hKW KW; (try simp only [Act.put, List.setIfInBounds_toArray, List.set_cons_zero, List.set_cons_succ])
          refine tk_yes 7 (v := ?_) rfl (by kernel_rfl) (by kernel_rfl) (by kernel_rfl) (fun _ _ _ h => h) (by kernel_rfl) (by assumption) ?_ ?_; rotate_left; (focus (intro w hSw; (try dsimp only at hSw); go_simp; (first | done | (with_reducible rfl)))); (try simp only [Act.put, List.setIfInBounds_toArray, List.set_cons_zero, List.set_cons_succ])
          refine tk_yes 8 (v := ?_) rfl (by kernel_rfl) (by kernel_rfl) (by kernel_rfl) (fun _ _ _ h => h) (by kernel_rfl) (by assumption) ?_ ?_; rotate_left; (focus (intro w hSw; (try dsimp only at hSw); go_simp; (first | done | (with_reducible rfl)))); (try simp only [Act.put, List.setIfInBounds_toArray, List.set_cons_zero, List.set_cons_succ])
          refine tk_yes 9 (v := ?_) rfl (by kernel_rfl) (by kernel_rfl) (by kernel_rfl) (fun _ _ _ h => h) (by kernel_rfl) (by assumption) ?_ ?_; rotate_left; (focus (intro w hSw; (try dsimp only at hSw); go_simp; (first | done | (with_reducible rfl)))); (try simp only [Act.put, List.setIfInBounds_toArray, List.set_cons_zero, List.set_cons_succ])
          refine tk_yes 10 (v := ?_) rfl (by kernel_rfl) (by kernel_rfl) (by kernel_rfl) (fun _ _ _ h => h) (by kernel_rfl) (by assumption) ?_ ?_; rotate_left; (focus (intro w hSw; (try dsimp only at hSw); go_simp; (first | done | (with_reducible rfl)))); (try simp only [Act.put, List.setIfInBounds_toArray, List.set_cons_zero, List.set_cons_succ])
          refine tk_yes 11 (v := ?_) rfl (by kernel_rfl) (by kernel_rfl) (by kernel_rfl) (fun _ _ _ h => h) (by kernel_rfl) (by assumption) ?_ ?_; rotate_left; (focus (intro w hSw; (try dsimp only at hSw); go_simp; (first | done | (with_reducible rfl)))); (try simp only [Act.put, List.setIfInBounds_toArray, List.set_cons_zero, List.set_cons_succ])
          refine tk_yes 12 (v := ?_) rfl (by kernel_rfl) (by kernel_rfl) (by kernel_rfl) (fun _ _ _ h => h) (by kernel_rfl) (by assumption) ?_ ?_; rotate_left; (focus (intro w hSw; (try dsimp only at hSw); go_simp; (first | done | (with_reducible rfl)))); (try simp only [Act.put, List.setIfInBounds_toArray, List.set_cons_zero, List.set_cons_succ])
          refine tk_yes 13 (v := ?_) rfl (by kernel_rfl) (by kernel_rfl) (by kernel_rfl) (fun _ _ _ h => h) (by kernel_rfl) (by assumption) ?_ ?_; rotate_left; (focus (intro w hSw; (try dsimp only at hSw); go_simp; (first | done | (with_reducible rfl)))); (try simp only [Act.put, List.setIfInBounds_toArray, List.set_cons_zero, List.set_cons_succ])
          refine tk_yes 14 (v := ?_) rfl (by kernel_rfl) (by kernel_rfl) (by kernel_rfl) (fun _ _ _ h => h) (by kernel_rfl) (by assumption) ?_ ?_; rotate_left; (focus (intro w hSw; (try dsimp only at hSw); go_simp; (first | done | (with_reducible rfl)))); (try simp only [Act.put, List.setIfInBounds_toArray, List.set_cons_zero, List.set_cons_succ])
          refine tk_yes 15 (v := ?_) rfl (by kernel_rfl) (by kernel_rfl) (by kernel_rfl) (fun _ _ _ h => h) (by kernel_rfl) (by assumption) ?_ ?_; rotate_left; (focus (intro w hSw; (try dsimp only at hSw); go_simp; (first | done | (with_reducible rfl)))); (try simp only [Act.put, List.setIfInBounds_toArray, List.set_cons_zero, List.set_cons_succ])
          refine tk_yes 16 (v := ?_) rfl (by kernel_rfl) (by kernel_rfl) (by kernel_rfl) (fun _ _ _ h => h) (by kernel_rfl) (by assumption) ?_ ?_; rotate_left; (focus (intro w hSw; (try dsimp only at hSw); go_simp; (first | done | (with_reducible rfl)))); (try simp only [Act.put, List.setIfInBounds_toArray, List.set_cons_zero, List.set_cons_succ])
          refine tk_yes 18 (v := ?_) rfl (by kernel_rfl) (by kernel_rfl) (by kernel_rfl) (fun _ _ _ h => h) (by kernel_rfl) (by assumption) ?_ ?_; rotate_left; (focus (intro w hSw; (try dsimp only at hSw); go_simp; (first | done | (with_reducible rfl)))); (try simp only [Act.put, List.setIfInBounds_toArray, List.set_cons_zero, List.set_cons_succ])
          refine tk_yes 19 (v := ?_) rfl (by kernel_rfl) (by kernel_rfl) (by kernel_rfl) (fun _ _ _ h => h) (by kernel_rfl) (by assumption) ?_ ?_; rotate_left; (focus (intro w hSw; (try dsimp only at hSw); go_simp; (first | done | (with_reducible rfl)))); (try simp only [Act.put, List.setIfInBounds_toArray, List.set_cons_zero, List.set_cons_succ])
          refine tk_yes 20 (v := ?_) rfl (by kernel_rfl) (by kernel_rfl) (by kernel_rfl) (fun _ _ _ h => h) (by kernel_rfl) (by assumption) ?_ ?_; rotate_left; (focus (intro w hSw; (try dsimp only at hSw); go_simp; (first | done | (with_reducible rfl)))); (try simp only [Act.put, List.setIfInBounds_toArray, List.set_cons_zero, List.set_cons_succ])
          refine tk_yes 22 (v := ?_) rfl (by kernel_rfl) (by kernel_rfl) (by kernel_rfl) (fun _ _ _ h => h) (by kernel_rfl) (by assumption) ?_ ?_; rotate_left; (focus (intro w hSw; (try dsimp only at hSw); go_simp; (first | done | (with_reducible rfl)))); (try simp only [Act.put, List.setIfInBounds_toArray, List.set_cons_zero, List.set_cons_succ])
          refine tk_yes 23 (v := ?_) rfl (by kernel_rfl) (by kernel_rfl) (by kernel_rfl) (fun _ _ _ h => h) (by kernel_rfl) (by assumption) ?_ ?_; rotate_left; (focus (intro w hSw; (try dsimp only at hSw); go_simp; (first | done | (with_reducible rfl)))); (try simp only [Act.put, List.setIfInBounds_toArray, List.set_cons_zero, List.set_cons_succ])
          refine tk_yes 24 (v := ?_) rfl (by kernel_rfl) (by kernel_rfl) (by kernel_rfl) (fun _ _ _ h => h) (by kernel_rfl) (by assumption) ?_ ?_; rotate_left; (focus (intro w hSw; (try dsimp only at hSw); go_simp; (first | done | (with_reducible rfl)))); (try simp only [Act.put, List.setIfInBounds_toArray, List.set_cons_zero, List.set_cons_succ])
          refine tk_yes 25 (v := ?_) rfl (by kernel_rfl) (by kernel_rfl) (by kernel_rfl) (fun _ _ _ h => h) (by kernel_rfl) (by assumption) ?_ ?_; rotate_left; (focus (intro w hSw; (try dsimp only at hSw); go_simp; (first | done | (with_reducible rfl)))); (try simp only [Act.put, List.setIfInBounds_toArray, List.set_cons_zero, List.set_cons_succ])
          refine tk_call 17 rfl (by kernel_rfl) (by kernel_rfl) (fun KW hKW => ?_); go_simp; refine hKW.out _ _ ?_ (fun hHeld => ?_); (focus ((try dsimp only); exact hS.out _ (by repeat (first | exact Below.refl _ _ | assumption | refine bel_drew ?_ | refine bel_drewN ?_ _ | refine bel_alloc ?_ _ | refine bel_trans ?_ (by assumption))))); clear hKW KW; (try simp only [Act.put, List.setIfInBounds_toArray, List.set_cons_zero, List.set_cons_succ])
          refine tk_call 21 rfl (by kernel_rfl) (by kernel_rfl) (fun KW hKW => ?_); refine app_operM (.tmp 32) (.tmp 35) rfl u1.heap.size _ [] rfl OE.out (some ⟨b, off, none⟩) k _ (l.take k) rfl (HS1.out k _ (bel_alloc t1 _) (by omega)) (by simp; omega) (by simp) ?_; intro v5 w5 ho5 hb5; rw [List.nil_append] at ho5; replace ho5 := Lib.hid ho5; have t5 : Below w.heap.size w w5 := bel_trans' (bel_alloc t1 _) hb5 t1.size; have s5 : u1.heap.size ≤ w5.heap.size := (by have := hb5.size; simp at this; omega); refine hKW.out _ _ ?_ (fun hHeld => ?_); (focus ((try dsimp only); exact hS.out _ (by repeat (first | exact Below.refl _ _ | assumption | refine bel_drew ?_ | refine bel_drewN ?_ _ | refine bel_alloc ?_ _ | refine bel_trans ?_ (by assumption))))); clear hKW KW; (try simp only [Act.put, List.setIfInBounds_toArray, List.set_cons_zero, List.set_cons_succ])
          refine tk_call 26 rfl (by kernel_rfl) (by kernel_rfl) (fun KW hKW => ?_); refine app_operM (.tmp 36) (.tmp 40) rfl u1.heap.size _ (l.take k) rfl ho5.out _ _ _ (l.drop (k + 1)) rfl (HS2.out k _ t5 (by omega)) (by rw [hlt1]; omega) s5 ?_; intro v6 w6 ho6 hb6; rw [← HCT.out] at ho6; have t6 : Below w.heap.size w w6 := bel_trans' t5 hb6 t1.size; obtain ⟨A6, c6, rfl, hm6, hc6, hcb6⟩ := OwnM.mem2 ho6 HCUT.out.2.2; rw [HCUT.out.1] at hm6 hc6 ⊢; have KR := Lib.hid (HRC.out A6 (PO.cut l k) c6 (f + m.2.2.1) w6 hm6 hc6 hcb6 HCUT.out.2.1 (by omega) (by omega)); clear ho6 hm6 hc6 hcb6; refine hKW.out _ _ ?_ (fun hHeld => ?_); (focus ((try dsimp only); exact hS.out _ (by repeat (first | exact Below.refl _ _ | assumption | refine bel_drew ?_ | refine bel_drewN ?_ _ | refine bel_alloc ?_ _ | refine bel_trans ?_ (by assumption))))); clear hKW KW; (try simp only [Act.put, List.setIfInBounds_toArray, List.set_cons_zero, List.set_cons_succ])
          refine tk_call 27 rfl (by kernel_rfl) (by kernel_rfl) (fun KW hKW => ?_); go_simp; go_at_call 52; refine KR.out.mono ?_; rintro e u7 ⟨r, rfl, hr, d7⟩; have t7 : Below w.heap.size w u7 := bel_trans t6 d7; replace hr := Lib.hid hr; refine hKW.out _ _ ?_ (fun hHeld => ?_); (focus ((try dsimp only); exact hS.out _ (by repeat (first | exact Below.refl _ _ | assumption | refine bel_drew ?_ | refine bel_drewN ?_ _ | refine bel_alloc ?_ _ | refine bel_trans ?_ (by assumption))))); clear hKW KW; (try simp only [Act.put, List.setIfInBounds_toArray, List.set_cons_zero, List.set_cons_succ])
          refine tk_yes 28 (v := ?_) rfl (by kernel_rfl) (by kernel_rfl) (by kernel_rfl) (fun _ _ _ h => h) (by kernel_rfl) (by assumption) ?_ ?_; rotate_left; (focus (intro w hSw; (try dsimp only at hSw); go_simp; (first | done | (with_reducible rfl)))); (try simp only [Act.put, List.setIfInBounds_toArray, List.set_cons_zero, List.set_cons_succ])
          refine wpAnyH_done (by kernel_rfl) ?_ _
          cases r with
          | true =>
            have HFIN := Lib.hid (HYK.out HQ.out (hr.out.1 rfl) u7 t7)
            go_wp2_with fail
            go_ret
            exact HFIN.out
          | false =>
            have HE := Lib.hid (HNX.out (fun h => by have := hr.out.2 h.2; cases this))
            go_wp2_with fail
            go_roundw
            case rel => exact ⟨k + 1, by omega, by go_num, HE.out, t7⟩
            case measure => simp [intOf] <;> omega

      · have qf : decide (nd ≤ f) = false := decide_eq_false hq
        have HE := Lib.hid (HNX.out (fun h => hq h.1))
        go_wp2_with fail
        refine wp_region_held_drew (S := (fun W : World => W.cell? ⟨b, off + k * 4 + 1, none⟩ = some (.int .i64 m.2.1) ∧ W.cell? ⟨b, off + k * 4 + 2, none⟩ = some (.int .i64 m.2.2.1) ∧ W.cell? ⟨b, off + k * 4 + 3, none⟩ = some (.int .i64 m.2.2.2))) (by kernel_rfl) ?_ (fun hHeld => ?_)
        focus ((try dsimp only); exact hS.out _ (by repeat (first | exact Below.refl _ _ | assumption | refine bel_drew ?_ | refine bel_drewN ?_ _ | refine bel_alloc ?_ _ | refine bel_trans ?_ (by assumption))))
        refine tk_yes 0 (v := ?_) rfl (by kernel_rfl) (by kernel_rfl) (by kernel_rfl) (fun _ _ _ h => h) (by kernel_rfl) (by assumption) ?_ ?_; rotate_left; (focus (intro w hSw; (try dsimp only at hSw); go_simp; (first | done | (with_reducible rfl)))); (try simp only [Act.put, List.setIfInBounds_toArray, List.set_cons_zero, List.set_cons_succ])
        refine tk_yes 1 (v := ?_) rfl (by kernel_rfl) (by kernel_rfl) (by kernel_rfl) (fun _ _ _ h => h) (by kernel_rfl) (by assumption) ?_ ?_; rotate_left; (focus (intro w hSw; (try dsimp only at hSw); go_simp; (first | done | (with_reducible rfl)))); (try simp only [Act.put, List.setIfInBounds_toArray, List.set_cons_zero, List.set_cons_succ])
        refine tk_yes 2 (v := ?_) rfl (by kernel_rfl) (by kernel_rfl) (by kernel_rfl) (fun _ _ _ h => h) (by kernel_rfl) (by assumption) ?_ ?_; rotate_left; (focus (intro w hSw; (try dsimp only at hSw); go_simp; (first | done | (with_reducible rfl)))); (try simp only [Act.put, List.setIfInBounds_toArray, List.set_cons_zero, List.set_cons_succ])
        refine tk_yes 3 (v := ?_) rfl (by kernel_rfl) (by kernel_rfl) (by kernel_rfl) (fun _ _ _ h => h) (by kernel_rfl) (by assumption) ?_ ?_; rotate_left; (focus (intro w hSw; (try dsimp only at hSw); go_simp; (first | done | (with_reducible rfl)))); (try simp only [Act.put, List.setIfInBounds_toArray, List.set_cons_zero, List.set_cons_succ])
        refine tk_yes 4 (v := ?_) rfl (by kernel_rfl) (by kernel_rfl) (by kernel_rfl) (fun _ _ _ h => h) (by kernel_rfl) (by assumption) ?_ ?_; rotate_left; (focus (intro w hSw; (try dsimp only at hSw); go_simp; (first | done | (with_reducible rfl)))); (try simp only [Act.put, List.setIfInBounds_toArray, List.set_cons_zero, List.set_cons_succ])
        refine tk_yes 6 (v := ?_) rfl (by kernel_rfl) (by kernel_rfl) (by kernel_rfl) (fun _ _ _ h => h) (by kernel_rfl) (by assumption) ?_ ?_; rotate_left; (focus (intro w hSw; (try dsimp only at hSw); go_simp; (first | done | (with_reducible rfl)))); (try simp only [Act.put, List.setIfInBounds_toArray, List.set_cons_zero, List.set_cons_succ])
        refine tk_call 5 rfl (by kernel_rfl) (by kernel_rfl) (fun KW hKW => ?_); go_simp; go_at_call 23; refine (KN.out _).mono ?_; rintro e u1 ⟨rfl, d1⟩; have t1 : Below w.heap.size w u1 := (by exact bel_trans (bel_drew hbel) d1); have OE : Hid (OwnM u1.heap.size (u1.alloc (.cells #[] 34)) (.slice (some ⟨u1.heap.size, 0, none⟩) 0 0) []) := Lib.hid (own_emptyS 4 u1 _); refine hKW.out _ _ ?_ (fun hHeld => ?_); (focus ((try dsimp only); exact hS.out _ (by repeat (first | exact Below.refl _ _ | assumption | refine bel_drew ?_ | refine bel_drewN ?_ _ | refine bel_alloc ?_ _ | refine bel_trans ?_ (by assumption))))); clear hKW KW; (try simp only [Act.put, List.setIfInBounds_toArray, List.set_cons_zero, List.set_cons_succ])
        refine tk_yes 7 (v := ?_) rfl (by kernel_rfl) (by kernel_rfl) (by kernel_rfl) (fun _ _ _ h => h) (by kernel_rfl) (by assumption) ?_ ?_; rotate_left; (focus (intro w hSw; (try dsimp only at hSw); go_simp; (first | done | (with_reducible rfl)))); (try simp only [Act.put, List.setIfInBounds_toArray, List.set_cons_zero, List.set_cons_succ])
        refine tk_yes 8 (v := ?_) rfl (by kernel_rfl) (by kernel_rfl) (by kernel_rfl) (fun _ _ _ h => h) (by kernel_rfl) (by assumption) ?_ ?_; rotate_left; (focus (intro w hSw; (try dsimp only at hSw); go_simp; (first | done | (with_reducible rfl)))); (try simp only [Act.put, List.setIfInBounds_toArray, List.set_cons_zero, List.set_cons_succ])
        refine tk_no 9 rfl (by kernel_rfl) (by kernel_rfl) (by kernel_rfl) (fun _ _ _ h => h) (by kernel_rfl) (by assumption) ?_; (try simp only [Act.put, List.setIfInBounds_toArray, List.set_cons_zero, List.set_cons_succ])
        refine tk_no 10 rfl (by kernel_rfl) (by kernel_rfl) (by kernel_rfl) (fun _ _ _ h => h) (by kernel_rfl) (by assumption) ?_; (try simp only [Act.put, List.setIfInBounds_toArray, List.set_cons_zero, List.set_cons_succ])
        refine tk_no 11 rfl (by kernel_rfl) (by kernel_rfl) (by kernel_rfl) (fun _ _ _ h => h) (by kernel_rfl) (by assumption) ?_; (try simp only [Act.put, List.setIfInBounds_toArray, List.set_cons_zero, List.set_cons_succ])
        refine tk_no 12 rfl (by kernel_rfl) (by kernel_rfl) (by kernel_rfl) (fun _ _ _ h => h) (by kernel_rfl) (by assumption) ?_; (try simp only [Act.put, List.setIfInBounds_toArray, List.set_cons_zero, List.set_cons_succ])
        refine tk_no 13 rfl (by kernel_rfl) (by kernel_rfl) (by kernel_rfl) (fun _ _ _ h => h) (by kernel_rfl) (by assumption) ?_; (try simp only [Act.put, List.setIfInBounds_toArray, List.set_cons_zero, List.set_cons_succ])
        refine tk_no 14 rfl (by kernel_rfl) (by kernel_rfl) (by kernel_rfl) (fun _ _ _ h => h) (by kernel_rfl) (by assumption) ?_; (try simp only [Act.put, List.setIfInBounds_toArray, List.set_cons_zero, List.set_cons_succ])
        refine tk_no 15 rfl (by kernel_rfl) (by kernel_rfl) (by kernel_rfl) (fun _ _ _ h => h) (by kernel_rfl) (by assumption) ?_; (try simp only [Act.put, List.setIfInBounds_toArray, List.set_cons_zero, List.set_cons_succ])
        refine tk_no 16 rfl (by kernel_rfl) (by kernel_rfl) (by kernel_rfl) (fun _ _ _ h => h) (by kernel_rfl) (by assumption) ?_; (try simp only [Act.put, List.setIfInBounds_toArray, List.set_cons_zero, List.set_cons_succ])
        refine tk_no 18 rfl (by kernel_rfl) (by kernel_rfl) (by kernel_rfl) (fun _ _ _ h => h) (by kernel_rfl) (by assumption) ?_; (try simp only [Act.put, List.setIfInBounds_toArray, List.set_cons_zero, List.set_cons_succ])
        refine tk_no 19 rfl (by kernel_rfl) (by kernel_rfl) (by kernel_rfl) (fun _ _ _ h => h) (by kernel_rfl) (by assumption) ?_; (try simp only [Act.put, List.setIfInBounds_toArray, List.set_cons_zero, List.set_cons_succ])
        refine tk_no 20 rfl (by kernel_rfl) (by kernel_rfl) (by kernel_rfl) (fun _ _ _ h => h) (by kernel_rfl) (by assumption) ?_; (try simp only [Act.put, List.setIfInBounds_toArray, List.set_cons_zero, List.set_cons_succ])
        refine tk_no 22 rfl (by kernel_rfl) (by kernel_rfl) (by kernel_rfl) (fun _ _ _ h => h) (by kernel_rfl) (by assumption) ?_; (try simp only [Act.put, List.setIfInBounds_toArray, List.set_cons_zero, List.set_cons_succ])
        refine tk_no 23 rfl (by kernel_rfl) (by kernel_rfl) (by kernel_rfl) (fun _ _ _ h => h) (by kernel_rfl) (by assumption) ?_; (try simp only [Act.put, List.setIfInBounds_toArray, List.set_cons_zero, List.set_cons_succ])
        refine tk_no 24 rfl (by kernel_rfl) (by kernel_rfl) (by kernel_rfl) (fun _ _ _ h => h) (by kernel_rfl) (by assumption) ?_; (try simp only [Act.put, List.setIfInBounds_toArray, List.set_cons_zero, List.set_cons_succ])
        refine tk_no 25 rfl (by kernel_rfl) (by kernel_rfl) (by kernel_rfl) (fun _ _ _ h => h) (by kernel_rfl) (by assumption) ?_; (try simp only [Act.put, List.setIfInBounds_toArray, List.set_cons_zero, List.set_cons_succ])
        refine tk_no 17 rfl (by kernel_rfl) (by kernel_rfl) (by kernel_rfl) (fun _ _ _ h => h) (by kernel_rfl) (by assumption) ?_; (try simp only [Act.put, List.setIfInBounds_toArray, List.set_cons_zero, List.set_cons_succ])
        refine tk_no 21 rfl (by kernel_rfl) (by kernel_rfl) (by kernel_rfl) (fun _ _ _ h => h) (by kernel_rfl) (by assumption) ?_; (try simp only [Act.put, List.setIfInBounds_toArray, List.set_cons_zero, List.set_cons_succ])
        refine tk_no 26 rfl (by kernel_rfl) (by kernel_rfl) (by kernel_rfl) (fun _ _ _ h => h) (by kernel_rfl) (by assumption) ?_; (try simp only [Act.put, List.setIfInBounds_toArray, List.set_cons_zero, List.set_cons_succ])
        refine tk_no 27 rfl (by kernel_rfl) (by kernel_rfl) (by kernel_rfl) (fun _ _ _ h => h) (by kernel_rfl) (by assumption) ?_; (try simp only [Act.put, List.setIfInBounds_toArray, List.set_cons_zero, List.set_cons_succ])
        refine tk_yes 28 (v := ?_) rfl (by kernel_rfl) (by kernel_rfl) (by kernel_rfl) (fun _ _ _ h => h) (by kernel_rfl) (by assumption) ?_ ?_; rotate_left; (focus (intro w hSw; (try dsimp only at hSw); go_simp; (first | done | (with_reducible rfl)))); (try simp only [Act.put, List.setIfInBounds_toArray, List.set_cons_zero, List.set_cons_succ])
        refine wpAnyH_done (by kernel_rfl) ?_ _
        go_wp2_with fail
        go_roundw
        case rel => exact ⟨k + 1, by omega, by go_num, HE.out, t1⟩
        case measure => simp [intOf] <;> omega

    · have HFIN := Lib.hid (HNO.out wr (fun j hj => HN.out j (by omega)) hbel)
      have j1 : ¬ (k : Int) < (n : Int) + 1 := by omega
      have j2 : ¬ k < n + 1 := hlt
      go_wp2_with fail
      go_ret
      exact HFIN.out
theorem ref28_Any : ∀ (n : Nat) {A : Option Addr} {l : List PO.Mem} (c : Nat) (f : Int) {w : World}, n ≤ 100 → MemAt w A n l → n ≤ c → c ≤ 9223372036854775807 → l.all PO.ok = true → 0 ≤ f → f + 1048576 * (n : Int) ≤ 1099511627776 →
    Calls Try.prog 52 #[.int .i64 f, .slice A n c] w (GivesAny f l w)
  | 0, A, l, c, f, w, _, h, _, _, _, _, _ => by
    obtain rfl := List.eq_nil_of_length_eq_zero h.1
    exact any_zero A c f w
  | n + 1, A, l, c, f, w, hn, h, hc, hcb, ha, f0, f1 =>
    any_step c f h (by omega) hc hcb ha f0 (by push_cast at f1; omega) (fun A' l' c' f' w' h' hc' hcb' ha' f0' f1' => ref28_Any n c' f' (by omega) h' hc' hcb' ha' f0' f1')
end Go.Proofs.Ythmjbfocpdiikaa
