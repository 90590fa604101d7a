/-
  Plain: how much more than its need each member has in its turn.
-/
import Derived.Test.YthmjbfocpdiikaaPlainOrd
namespace Go.Proofs.Ythmjbfocpdiikaa
set_option linter.unusedVariables false
namespace PO
def spareGo (l : List Mem) : Int → List Nat → Nat → Int
  | _, [], _ => 0
  | f, a :: t, i => if a = i then f - need (l.getD i m0) else spareGo l (f + (l.getD a m0).2.2.1) t i
def spare (f : Int) (l : List Mem) : List Int := if safe f l = true then (List.range l.length).map (spareGo l f (takenAll f l)) else []
def first (f : Int) (l : List Mem) : Int := if may f l = true then idx (fun m => decide (need m ≤ f)) l else -1
theorem spareGo_turn {l : List Mem} {L : Int} : ∀ {d : List Nat} {f : Int}, d.Nodup → (∀ x ∈ d, x < l.length) → (∀ x ∈ d, L ≤ spareGo l f d x) → Turn l (f - L) d
  | [], f, _, _, _ => turn_nil l _
  | a :: t, f, hn, hl, h => by
    have hn' := List.nodup_cons.1 hn
    have h0 := h a List.mem_cons_self
    rw [spareGo, if_pos rfl] at h0
    refine turn_cons.2 ⟨⟨hl a List.mem_cons_self, by omega⟩, ?_⟩
    have := spareGo_turn (l := l) (L := L) (d := t) (f := f + held l a) hn'.2 (fun x hx => hl x (List.mem_cons_of_mem _ hx)) (fun x hx => by
      have h1 := h x (List.mem_cons_of_mem _ hx)
      have hne : a ≠ x := fun e => hn'.1 (e ▸ hx)
      rw [spareGo, if_neg hne] at h1
      exact h1)
    rwa [show f + held l a - L = f - L + held l a by omega] at this
theorem spareGo_ge {l : List Mem} : ∀ {d : List Nat} {f : Int}, Turn l f d → ∀ x ∈ d, 0 ≤ spareGo l f d x
  | a :: t, f, ht, x, hx => by
    obtain ⟨⟨h1, h2⟩, h3⟩ := turn_cons.1 ht
    rw [spareGo]
    split
    · rename_i e; subst e; omega
    · rename_i e
      rcases List.mem_cons.1 hx with h | h
      · exact absurd h.symm e
      · exact spareGo_ge (f := f + held l a) h3 x h
theorem spare_len {f : Int} {l : List Mem} (hs : safe f l = true) : (spare f l).length = l.length := by unfold spare; rw [if_pos hs]; simp
theorem spare_at {f : Int} {l : List Mem} (hs : safe f l = true) {i : Nat} (hi : i < l.length) : (spare f l).getD i 0 = spareGo l f (takenAll f l) i := by unfold spare; rw [if_pos hs]; simp [List.getD, hi]
theorem spare_ge {f : Int} {l : List Mem} (hs : safe f l = true) {i : Nat} (hi : i < l.length) : 0 ≤ (spare f l).getD i 0 := by
  rw [spare_at hs hi]
  obtain ⟨h1, h2, h3, _⟩ := takenAll_spec (safe_may hs)
  exact spareGo_ge h3 i (all_in _ _ h1 h2 ((safe_iff (safe_may hs)).1 hs) i hi)
theorem spare_safe {f : Int} {l : List Mem} (hs : safe f l = true) {L : Int} (h0 : 0 ≤ L) (hf : L ≤ f) (h : ∀ i, i < l.length → L ≤ (spare f l).getD i 0) : safe (f - L) l = true := by
  have hm := safe_may hs
  obtain ⟨f0, f1, fa⟩ := may_iff.1 hm
  obtain ⟨h1, h2, h3, _⟩ := takenAll_spec hm
  have hl := (safe_iff hm).1 hs
  have ht := spareGo_turn (l := l) (L := L) (f := f) h1 h2 (fun x hx => by rw [← spare_at hs (h2 x hx)]; exact h x (h2 x hx))
  exact (safe_runs (may_iff.2 ⟨by omega, by omega, fa⟩)).2 (all_runs h1 h2 ht hl)
theorem order_yes {f : Int} {l : List Mem} (hs : safe f l = true) : (order f l).1 = takenAll f l ∧ (takenAll f l).length = l.length := by
  have hm := safe_may hs
  have hl := (safe_iff hm).1 hs
  have e : order f l = (if may f l = false then ([], false) else if (takenAll f l).length < l.length then ([], false) else (takenAll f l, true)) := rfl
  rw [e, if_neg (by rw [hm]; simp), if_neg (by omega)]
  exact ⟨rfl, hl⟩
/-- On the way along an order. -/
theorem spare_step {l : List Mem} {f : Int} {o : List Nat} {k : Nat} (hk : k < o.length) (i : Nat) : spareGo l f (o.drop k) i = if o.getD k 0 = i then f - need (l.getD i m0) else spareGo l (f + (l.getD (o.getD k 0) m0).2.2.1) (o.drop (k + 1)) i := by
  have e : o.getD k 0 = o[k] := by simp [List.getD, hk]
  rw [List.drop_eq_getElem_cons hk, e]
  rfl
theorem take_mem {o : List Nat} {k : Nat} (hk : k < o.length) (j : Nat) : j ∈ o.take (k + 1) ↔ j ∈ o.take k ∨ j = o.getD k 0 := by
  have e : o.getD k 0 = o[k] := by simp [List.getD, hk]
  rw [List.take_add_one, List.mem_append, List.getElem?_eq_getElem hk, e]
  simp
theorem not_before {o : List Nat} (hn : o.Nodup) {k : Nat} (hk : k < o.length) : o.getD k 0 ∉ o.take k := by
  have e : o.getD k 0 = o[k] := by simp [List.getD, hk]
  rw [e]
  intro h
  rw [List.mem_take_iff_getElem] at h
  obtain ⟨i, hi, hii⟩ := h
  have := List.nodup_iff_pairwise_ne.1 hn
  rw [List.pairwise_iff_getElem] at this
  exact this i k (by omega) hk (by omega) hii
theorem sum_take {l : List Mem} {o : List Nat} {k : Nat} (hk : k < o.length) : sumH l (o.take (k + 1)) = sumH l (o.take k) + (l.getD (o.getD k 0) m0).2.2.1 := by
  have e : o.getD k 0 = o[k] := by simp [List.getD, hk]
  have e2 : o.take (k + 1) = o.take k ++ [o.getD k 0] := by rw [List.take_add_one, List.getElem?_eq_getElem hk, e]; rfl
  rw [e2, sumH_snoc]
  rfl
end PO
end Go.Proofs.Ythmjbfocpdiikaa
