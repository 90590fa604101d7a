/-
  Plain: if every member waits or holds nothing, and all may end, some ticket may go.
-/
import Derived.Test.YthmjbfocpdiikaaSkipF
import Derived.Test.YthmjbfocpdiikaaPlainMem4
namespace Go.Proofs.Ythmjbfocpdiikaa
set_option linter.unusedVariables false
namespace SK
open PO
theorem next_nonneg {ts : List Tick} {ms : List Mem} {f w : Int} {k : Nat} (hk : k < ts.length) (h : why ts ms f w (k : Int) = 0) : 0 ≤ next ts ms f w := by
  unfold next
  rcases e : (List.range ts.length).findIdx? (fun i : Nat => decide (why ts ms f w (i : Int) = 0)) with _ | i
  · rw [List.findIdx?_eq_none_iff] at e
    have := e k (by simpa using hk)
    simp [h] at this
  · simp
theorem tsum_ge {ts : List Tick} {id : Int} : ∀ {K k : Nat}, (∀ j, j < K → cl ts j = id → 1 ≤ cnt ts j ∧ cnt ts j ≤ 1048576) → k < K → cl ts k = id → cnt ts k ≤ tsum ts id K
  | 0, k, _, h, _ => absurd h (by omega)
  | K + 1, k, h, hk, hc => by
    have hb := (tsum_bd (ts := ts) (id := id) (k := K) (fun j hj => h j (by omega))).1
    unfold tsum
    by_cases e : k = K
    · rw [if_pos (e ▸ hc)]
      rw [e]
      omega
    · have ih := tsum_ge (K := K) (k := k) (fun j hj => h j (by omega)) (by omega) hc
      split
      · have := h K (by omega) ‹_›
        omega
      · exact ih
def give (m : Mem) (n : Int) : Mem := (m.1, m.2.1, m.2.2.1 + n, m.2.2.2 - n)
theorem getD_set {l : List Mem} {j : Nat} {m : Mem} (hj : j < l.length) (i : Nat) : (l.set j m).getD i m0 = if i = j then m else l.getD i m0 := by
  simp only [List.getD, List.getElem?_set]
  by_cases e : i = j
  · subst e; simp [hj]
  · rw [if_neg (fun h => e h.symm), if_neg e]
theorem need_ok {m : Mem} (h : ok m = true) : need m = m.2.1 - m.2.2.1 := by
  show PA.need _ _ _ = _
  unfold PA.need
  rw [if_pos (show PA.right _ _ _ = true from h)]
theorem sumH_cons (l : List Mem) (a : Nat) (t : List Nat) : sumH l (a :: t) = held l a + sumH l t := by simp [sumH]
theorem sumH_not {l : List Mem} {j : Nat} {m : Mem} (hj : j < l.length) : ∀ X : List Nat, j ∉ X → sumH (l.set j m) X = sumH l X
  | [], _ => rfl
  | a :: t, h => by
    have h1 : a ≠ j := fun e => h (e ▸ List.mem_cons_self)
    have ih := sumH_not (l := l) (m := m) hj t (fun e => h (List.mem_cons_of_mem _ e))
    have e : held (l.set j m) a = held l a := by unfold held; rw [getD_set hj, if_neg h1]
    rw [sumH_cons, sumH_cons, e, ih]
theorem sumH_give {l : List Mem} {j : Nat} {n : Int} (hj : j < l.length) {X : List Nat} (hX : X.Nodup) (h : j ∈ X) : sumH (l.set j (give (l.getD j m0) n)) X = sumH l X + n := by
  have hp := List.perm_cons_erase h
  rw [sumH_perm hp, sumH_perm (l := l) hp]
  have hn : j ∉ X.erase j := fun e => ((hX.mem_erase_iff).1 e).1 rfl
  have := sumH_not (m := give (l.getD j m0) n) hj _ hn
  have e : held (l.set j (give (l.getD j m0) n)) j = held l j + n := by unfold held; rw [getD_set hj, if_pos rfl]; rfl
  rw [sumH_cons, sumH_cons, e, this]
  omega
/-- Behind a grant to one whose whole need is free, all may still end. -/
theorem give_safe {l : List Mem} {f n : Int} {j : Nat} (hs : safe f l = true) (hj : j < l.length) (hn : need (l.getD j m0) ≤ f) (h1 : 1 ≤ n) (h2 : n ≤ (l.getD j m0).2.2.2) : safe (f - n) (l.set j (give (l.getD j m0) n)) = true := by
  have hm := safe_may hs
  obtain ⟨f0, f1, fa⟩ := may_iff.1 hm
  have hok := ok_get fa hj
  have hr := (PA.right_iff _ _ _).1 hok
  have hnd := need_ok hok
  have hok' : ok (give (l.getD j m0) n) = true := (PA.right_iff _ _ _).2 (by unfold give; dsimp only; omega)
  have hnd' : need (give (l.getD j m0) n) = (l.getD j m0).2.1 - ((l.getD j m0).2.2.1 + n) := need_ok hok'
  have hlen : (l.set j (give (l.getD j m0) n)).length = l.length := by simp
  have hall : (l.set j (give (l.getD j m0) n)).all ok = true := all_of (fun i hi => by
    rw [getD_set hj]
    split
    · exact hok'
    · exact ok_get fa (by rwa [hlen] at hi))
  have hm' : may (f - n) (l.set j (give (l.getD j m0) n)) = true := may_iff.2 ⟨by omega, by omega, hall⟩
  refine safe_of_stuck hm' (fun X hX hXl _ hne i hi => ?_)
  have hXl' : ∀ x ∈ X, x < l.length := fun x hx => by have := hXl x hx; rwa [hlen] at this
  have hjX : j ∈ X := by
    rcases next_none' hne j (by rw [hlen]; exact hj) with h | h
    · exact h
    · rw [getD_set hj, if_pos rfl, hnd'] at h
      have := sumH_nonneg hall hXl
      omega
  rw [sumH_give hj hX hjX] at hne
  refine safe_stuck hm hs hXl' (Int.le_refl f) (PO.next_none (fun y hy => ?_)) i (by rwa [hlen] at hi)
  rcases next_none' hne y (by rw [hlen]; exact hy) with h | h
  · exact .inl h
  · by_cases e : y = j
    · exact .inl (e ▸ hjX)
    · rw [getD_set hj, if_neg e] at h
      exact .inr (by omega)
/-- The first ticket of a client that has any. -/
theorem first_of {ts : List Tick} {id : Int} : ∀ k : Nat, k < ts.length → cl ts k = id → ∃ k', k' ≤ k ∧ cl ts k' = id ∧ ∀ i, i < k' → cl ts i ≠ id := by
  intro k
  induction k using Nat.strongRecOn with
  | ind k ih =>
    intro hk hc
    by_cases h : ∃ i, i < k ∧ cl ts i = id
    · obtain ⟨i, h1, h2⟩ := h
      obtain ⟨k', a, b, c⟩ := ih i h1 (by omega) h2
      exact ⟨k', by omega, b, c⟩
    · exact ⟨k, Nat.le_refl _, hc, fun i hi e => h ⟨i, hi, e⟩⟩
theorem ahead_not {ts : List Tick} {k : Nat} (hk : k < ts.length) (h : ∀ i, i < k → cl ts i ≠ cl ts k) : ahead ts k = false := by
  unfold ahead
  rw [List.any_eq_false]
  intro t ht
  obtain ⟨i, hi, rfl⟩ := List.mem_iff_getElem.1 ht
  rw [List.length_take] at hi
  have := h i (by omega)
  have e : (ts.take k)[i].2.1 = cl ts i := by unfold cl; simp [List.getD, show i < ts.length by omega]
  rw [e]
  simpa using this
theorem ahead_yes {ts : List Tick} {k i : Nat} (hk : k < ts.length) (hi : i < k) (h : cl ts i = cl ts k) : ahead ts k = true := by
  unfold ahead
  rw [List.any_eq_true]
  refine ⟨ts[i], ?_, ?_⟩
  · rw [List.mem_take_iff_getElem]
    exact ⟨i, by omega, rfl⟩
  · have e : ts[i].2.1 = cl ts i := by unfold cl; simp [List.getD, show i < ts.length by omega]
    rw [e]; simpa using h
theorem why_zero {ts : List Tick} {ms : List Mem} {f : Int} {j k : Nat} (hF : Fit ts ms) (hs : safe f ms = true) (hj : j < ms.length) (hn : need (ms.getD j m0) ≤ f) (hk : k < ts.length) (hc : cl ts k = (ms.getD j m0).1) (hold : ∀ i, i < k → cl ts i ≠ (ms.getD j m0).1) (hh : k = 0 ∨ 0 < (ms.getD j m0).2.2.1) : why ts ms f 0 (k : Int) = 0 := by
  obtain ⟨F1, F2, F3, F4⟩ := hF.1 j hj
  have hcn := F2 k hk hc
  have hle := tsum_ge F2 hk hc
  rw [F3] at hle
  have hm := safe_may hs
  obtain ⟨f0, f1, fa⟩ := may_iff.1 hm
  have hok := ok_get fa hj
  have hr := (PA.right_iff _ _ _).1 hok
  have hnd := need_ok hok
  have hgs := give_safe hs hj hn hcn.1 hle
  have e1 : ((k : Int)).toNat = k := by omega
  have e2 : ((j : Int)).toNat = j := by omega
  have hbm : bmay f 0 ms (j : Int) (cnt ts k) = true := by
    unfold bmay
    have hb : bad f 0 = false := bad_iff.2 (by omega)
    rw [if_neg (by rw [hb]; simp; omega)]
    have hg : grant (ms.getD j m0) (cnt ts k) = (((ms.getD j m0).2.1, (ms.getD j m0).2.2.1 + cnt ts k, (ms.getD j m0).2.2.2 - cnt ts k), 0) := PA.doo2_yes hok hcn.1 hle
    have ha : after ms (j : Int) (cnt ts k) = (ms.set j (give (ms.getD j m0) (cnt ts k)), true) := by
      unfold after
      rw [if_neg (by omega), e2, hg, if_neg (by simp)]
      rfl
    rw [ha]
    dsimp only
    unfold bsafe
    have hb2 : bad (f - cnt ts k) 0 = false := bad_iff.2 (by omega)
    rw [if_neg (by rw [hb2]; simp), Int.add_zero, hgs]
    rfl
  have a1 : ¬ ((k : Int) < 0 ∨ (ts.length : Int) ≤ (k : Int)) := by omega
  have a2 : ¬ ((j : Int) < 0) := by omega
  have a3 : ¬ (ahead ts k = true) := by rw [ahead_not hk (by rw [hc]; exact hold)]; simp
  have a4 : ¬ (bmay f 0 ms (j : Int) (ts.getD k t0).2.2.1 = false) := by
    show ¬ bmay f 0 ms (j : Int) (cnt ts k) = false
    rw [hbm]; simp
  have a5 : ¬ (0 < (k : Int) ∧ (ms.getD j m0).2.2.1 = 0 ∧ 8 ≤ (ts.getD 0 t0).2.2.2.2) := by
    rintro ⟨b1, b2, _⟩
    rcases hh with h0 | h0
    · rw [h0] at b1; exact absurd b1 (by decide)
    · rw [b2] at h0; exact absurd h0 (by decide)
  unfold why
  rw [if_neg a1, e1, hc, F1, if_neg a2, if_neg a3, e2, if_neg a4, if_neg a5]
theorem some_goes {ts : List Tick} {ms : List Mem} {f : Int} (hF : Fit ts ms) (hs : safe f ms = true) : 0 ≤ next ts ms f 0 := by
  have hm := safe_may hs
  obtain ⟨f0, f1, fa⟩ := may_iff.1 hm
  by_cases hh : ∃ j, j < ms.length ∧ 0 < (ms.getD j m0).2.2.1
  · have hx : ∃ j, j < ms.length ∧ 0 < (ms.getD j m0).2.2.1 ∧ need (ms.getD j m0) ≤ f := by
      apply Classical.byContradiction
      intro hno
      obtain ⟨j, hj, hp⟩ := hh
      have hmem : ∀ x, x ∈ (List.range ms.length).filter (fun i => decide ((ms.getD i m0).2.2.1 ≤ 0)) ↔ x < ms.length ∧ (ms.getD x m0).2.2.1 ≤ 0 := fun x => by
        rw [List.mem_filter, List.mem_range, decide_eq_true_eq]
      have hs0 : 0 ≤ sumH ms ((List.range ms.length).filter (fun i => decide ((ms.getD i m0).2.2.1 ≤ 0))) := sumH_nonneg fa (fun x hx => ((hmem x).1 hx).1)
      have hs1 : sumH ms ((List.range ms.length).filter (fun i => decide ((ms.getD i m0).2.2.1 ≤ 0))) ≤ 0 := by
        have : ∀ d : List Nat, (∀ x ∈ d, (ms.getD x m0).2.2.1 ≤ 0) → sumH ms d ≤ 0 := by
          intro d
          induction d with
          | nil => intro _; simp [sumH]
          | cons a t ih =>
            intro h
            have h1 := ih (fun x hx => h x (List.mem_cons_of_mem _ hx))
            have h2 := h a List.mem_cons_self
            simp [sumH, held] at h1 h2 ⊢
            omega
        exact this _ (fun x hx => ((hmem x).1 hx).2)
      have := safe_stuck hm hs (X := (List.range ms.length).filter (fun i => decide ((ms.getD i m0).2.2.1 ≤ 0))) (fun x hx => ((hmem x).1 hx).1) (Int.le_refl f) (PO.next_none (fun y hy => by
        by_cases hy0 : (ms.getD y m0).2.2.1 ≤ 0
        · exact .inl ((hmem y).2 ⟨hy, hy0⟩)
        · right
          have : ¬ need (ms.getD y m0) ≤ f := fun h => hno ⟨y, hy, by omega, h⟩
          omega)) j hj
      have := ((hmem j).1 this).2
      omega
    obtain ⟨j, hj, hp, hn⟩ := hx
    obtain ⟨F1, F2, F3, F4⟩ := hF.1 j hj
    rcases F4 with ⟨k, hk, hc⟩ | h
    · obtain ⟨k', a, b, c⟩ := first_of k hk hc
      exact next_nonneg (show k' < ts.length by omega) (why_zero hF hs hj hn (by omega) b c (.inr hp))
    · omega
  · have h0 := hF.2.1 0 hF.2.2
    obtain ⟨j, ej, hj⟩ := idx_lt h0
    have hid : (ms.getD j m0).1 = cl ts 0 := by
      unfold idx at ej
      rcases e : ms.findIdx? (fun m => decide (m.1 = cl ts 0)) with _ | i
      · rw [e] at ej; simp at ej
      · rw [e] at ej
        obtain rfl : i = j := by simp only at ej; omega
        rw [List.findIdx?_eq_some_iff_getElem] at e
        have := e.2.1
        rw [getD_at hj]
        simpa using this
    have hn : need (ms.getD j m0) ≤ f := by
      have hmem : ∀ x, x ∈ (List.range ms.length).filter (fun i => decide (need (ms.getD i m0) ≤ f)) ↔ x < ms.length ∧ need (ms.getD x m0) ≤ f := fun x => by
        rw [List.mem_filter, List.mem_range, decide_eq_true_eq]
      have hz : sumH ms ((List.range ms.length).filter (fun i => decide (need (ms.getD i m0) ≤ f))) ≤ 0 := by
        have : ∀ d : List Nat, (∀ x ∈ d, (ms.getD x m0).2.2.1 ≤ 0) → sumH ms d ≤ 0 := by
          intro d
          induction d with
          | nil => intro _; simp [sumH]
          | cons a t ih =>
            intro h
            have h1 := ih (fun x hx => h x (List.mem_cons_of_mem _ hx))
            have h2 := h a List.mem_cons_self
            simp [sumH, held] at h1 h2 ⊢
            omega
        exact this _ (fun x hx => by
          have h1 := ((hmem x).1 hx).1
          apply Classical.byContradiction
          intro h2
          exact hh ⟨x, h1, by omega⟩)
      have := safe_stuck hm hs (X := (List.range ms.length).filter (fun i => decide (need (ms.getD i m0) ≤ f))) (fun x hx => ((hmem x).1 hx).1) (Int.le_refl f) (PO.next_none (fun y hy => by
        by_cases hy0 : need (ms.getD y m0) ≤ f
        · exact .inl ((hmem y).2 ⟨hy, hy0⟩)
        · right; omega)) j hj
      exact ((hmem j).1 this).2
    exact next_nonneg hF.2.2 (why_zero hF hs hj hn hF.2.2 hid.symm (fun i hi => absurd hi (by omega)) (.inl rfl))
end SK
end Go.Proofs.Ythmjbfocpdiikaa
