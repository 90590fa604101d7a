/-
  Plain: what the order that is told has; who may end whatever is done first.
-/
import Derived.Test.YthmjbfocpdiikaaPlainBank
namespace Go.Proofs.Ythmjbfocpdiikaa
set_option linter.unusedVariables false
namespace PO
def held (l : List Mem) (i : Nat) : Int := (l.getD i m0).2.2.1
def sumH (l : List Mem) (d : List Nat) : Int := (d.map (held l)).sum
theorem sumH_snoc (l : List Mem) (d : List Nat) (i : Nat) : sumH l (d ++ [i]) = sumH l d + held l i := by simp [sumH]
/-- Each is ready in its turn. -/
def Turn (l : List Mem) (free : Int) (d : List Nat) : Prop := ∀ j, j < d.length → d.getD j 0 < l.length ∧ need (l.getD (d.getD j 0) m0) ≤ free + sumH l (d.take j)
theorem turn_nil (l : List Mem) (free : Int) : Turn l free [] := fun j h => absurd h (by simp)
theorem turn_snoc {l : List Mem} {free : Int} {d : List Nat} {i : Nat} (h : Turn l free d) (hi : i < l.length) (hn : need (l.getD i m0) ≤ free + sumH l d) : Turn l free (d ++ [i]) := by
  intro j hj
  rw [List.length_append] at hj
  simp only [List.length_cons, List.length_nil] at hj
  rcases Nat.lt_or_ge j d.length with h1 | h1
  · have e : (d ++ [i]).getD j 0 = d.getD j 0 := by simp [List.getD, List.getElem?_append_left h1]
    rw [e, List.take_append_of_le_length (by omega)]
    exact h j h1
  · obtain rfl : j = d.length := by omega
    have e : (d ++ [i]).getD d.length 0 = i := by simp [List.getD]
    rw [e, List.take_append_of_le_length (Nat.le_refl _), List.take_length]
    exact ⟨hi, hn⟩
/-- Who is taken at last: each in its turn, all unlike, and nobody who is left is ready. -/
theorem taken_spec {l : List Mem} (ha : l.all ok = true) (free : Int) : ∀ (k : Nat) (f : Int) (done : List Nat), Good l k f done → f = free + sumH l done → Turn l free done →
    ∃ k' f', Good l k' f' (taken l k f done) ∧ f' = free + sumH l (taken l k f done) ∧ Turn l free (taken l k f done) ∧ next f' l (taken l k f done) = none
  | 0, f, done, hg, hf, ht => by
    cases hn : next f l done with
    | none => exact ⟨0, f, hg, hf, ht, hn⟩
    | some i =>
      obtain ⟨k', e, _⟩ := good_next ha hg hn
      exact absurd e (by omega)
  | k + 1, f, done, hg, hf, ht => by
    cases hn : next f l done with
    | none =>
      rw [taken_none hn]
      exact ⟨k + 1, f, hg, hf, ht, hn⟩
    | some i =>
      rw [taken_some hn]
      obtain ⟨k', e, hg'⟩ := good_next ha hg hn
      obtain rfl : k = k' := by omega
      obtain ⟨n1, n2, n3, _⟩ := next_some.1 hn
      exact taken_spec ha free k _ _ hg' (by rw [sumH_snoc, hf]; unfold held; omega) (turn_snoc ht n1 (by rw [← hf]; exact n3))
theorem takenAll_spec {l : List Mem} {free : Int} (hm : may free l = true) :
    (takenAll free l).Nodup ∧ (∀ x ∈ takenAll free l, x < l.length) ∧ Turn l free (takenAll free l) ∧ next (free + sumH l (takenAll free l)) l (takenAll free l) = none := by
  obtain ⟨k', f', hg, hf, ht, hn⟩ := taken_spec (may_iff.1 hm).2.2 free l.length free [] (good_start hm) (by simp [sumH]) (turn_nil l free)
  rw [hf] at hn
  exact ⟨hg.1, hg.2.1, ht, hn⟩
/-- More held by more. -/
theorem sumH_perm {l : List Mem} {a b : List Nat} (h : a.Perm b) : sumH l a = sumH l b := by
  induction h with
  | nil => rfl
  | cons x _ ih => simp [sumH] at ih ⊢; omega
  | swap x y _ => simp [sumH]; omega
  | trans _ _ h1 h2 => exact h1.trans h2
theorem sumH_nonneg {l : List Mem} (ha : l.all ok = true) {d : List Nat} (hd : ∀ x ∈ d, x < l.length) : 0 ≤ sumH l d := by
  induction d with
  | nil => simp [sumH]
  | cons x t ih =>
    have h1 := ih (fun y hy => hd y (List.mem_cons_of_mem _ hy))
    have h2 := (ok_held (ok_get ha (hd x List.mem_cons_self))).1
    simp [sumH, held] at h1 h2 ⊢
    omega
theorem sumH_sub {l : List Mem} (ha : l.all ok = true) : ∀ {a b : List Nat}, a.Nodup → (∀ x ∈ b, x < l.length) → (∀ x ∈ a, x ∈ b) → sumH l a ≤ sumH l b
  | [], b, _, hb, _ => by simpa [sumH] using sumH_nonneg ha hb
  | x :: t, b, hn, hb, hs => by
    have hx := hs x List.mem_cons_self
    have hp := List.perm_cons_erase hx
    rw [sumH_perm hp]
    have hn' := List.nodup_cons.1 hn
    have ih := sumH_sub ha (a := t) (b := b.erase x) hn'.2 (fun y hy => hb y (List.mem_of_mem_erase hy)) (fun y hy => by
      have h1 := hs y (List.mem_cons_of_mem _ hy)
      have h2 : y ≠ x := fun e => hn'.1 (e ▸ hy)
      exact (List.mem_erase_of_ne h2).2 h1)
    simp [sumH] at ih ⊢
    omega
/-- If each of d is ready in its turn, and nobody but those of X can go on, then d lies within X. -/
theorem turn_within {l : List Mem} (ha : l.all ok = true) {free free' : Int} {d X : List Nat} (hd : d.Nodup) (ht : Turn l free d) (hX : ∀ x ∈ X, x < l.length) (hff : free ≤ free') (hn : next (free' + sumH l X) l X = none) :
    ∀ x ∈ d, x ∈ X := by
  have key : ∀ j, j ≤ d.length → ∀ x ∈ d.take j, x ∈ X := by
    intro j
    induction j with
    | zero => intro _ x hx; simp at hx
    | succ j ih =>
      intro hj x hx
      have hlt : j < d.length := by omega
      have e : d.take (j + 1) = d.take j ++ [d.getD j 0] := by rw [List.take_add_one, List.getElem?_eq_getElem hlt]; simp [List.getD, hlt]
      rw [e] at hx
      rcases List.mem_append.1 hx with h1 | h1
      · exact ih (by omega) x h1
      · simp only [List.mem_singleton] at h1
        obtain ⟨t1, t2⟩ := ht j hlt
        have hs := sumH_sub ha (hd.sublist (List.take_sublist j d)) hX (ih (by omega))
        rcases next_none' hn _ t1 with h2 | h2
        · rw [h1]; exact h2
        · omega
  intro x hx
  exact key d.length (Nat.le_refl _) x (by rwa [List.take_length])
theorem safe_iff {free : Int} {l : List Mem} (hm : may free l = true) : safe free l = true ↔ (takenAll free l).length = l.length := by
  have e : order free l = (if may free l = false then ([], false) else if (takenAll free l).length < l.length then ([], false) else (takenAll free l, true)) := rfl
  rw [if_neg (by rw [hm]; simp)] at e
  obtain ⟨h1, h2, _⟩ := takenAll_spec hm
  have := nodup_le _ _ h1 h2
  unfold safe
  rw [e]
  split <;> simp <;> omega
/-- All of them are in a list of as many. -/
theorem all_in : ∀ (n : Nat) (d : List Nat), d.Nodup → (∀ x ∈ d, x < n) → d.length = n → ∀ i, i < n → i ∈ d
  | 0, _, _, _, _, i, hi => absurd hi (by omega)
  | n + 1, d, hd, h, hl, i, hi => by
    by_cases hm : n ∈ d
    · by_cases e : i = n
      · rw [e]; exact hm
      · have hl' : (d.erase n).length = n := by rw [List.length_erase_of_mem hm]; omega
        have := all_in n (d.erase n) (hd.erase n) (fun x hx => by
          have := (hd.mem_erase_iff).1 hx
          have := h x this.2
          omega) hl' i (by omega)
        exact List.mem_of_mem_erase this
    · have := nodup_le n d hd (fun x hx => by
        have h1 := h x hx
        have h2 : x ≠ n := fun e => hm (e ▸ hx)
        omega)
      omega
/-- If all are taken, nobody is left in whatever set nobody can go on from. -/
theorem safe_stuck {free free' : Int} {l : List Mem} (hm : may free l = true) (hs : safe free l = true) {X : List Nat} (hX : ∀ x ∈ X, x < l.length) (hff : free ≤ free') (hn : next (free' + sumH l X) l X = none) (i : Nat) (hi : i < l.length) : i ∈ X := by
  obtain ⟨h1, h2, h3, _⟩ := takenAll_spec hm
  exact turn_within (may_iff.1 hm).2.2 h1 h3 hX hff hn i (all_in _ _ h1 h2 ((safe_iff hm).1 hs) i hi)
/-- If from each set that nobody can go on from nobody is left, all may end. -/
theorem safe_of_stuck {free : Int} {l : List Mem} (hm : may free l = true) (h : ∀ X : List Nat, X.Nodup → (∀ x ∈ X, x < l.length) → Turn l free X → next (free + sumH l X) l X = none → ∀ i, i < l.length → i ∈ X) : safe free l = true := by
  obtain ⟨h1, h2, h3, h4⟩ := takenAll_spec hm
  rw [safe_iff hm]
  have hall := h _ h1 h2 h3 h4
  have h5 := nodup_le _ _ h1 h2
  have h6 : (List.range l.length).length ≤ (takenAll free l).length := by
    have hs := (List.nodup_range (n := l.length)).length_le_of_subset (l₂ := takenAll free l) (fun x hx => hall x (by simpa using hx))
    exact hs
  rw [List.length_range] at h6
  omega
end PO
end Go.Proofs.Ythmjbfocpdiikaa
