/-
  Plain: one member more that holds nothing.
-/
import Derived.Test.YthmjbfocpdiikaaPlainMem3
namespace Go.Proofs.Ythmjbfocpdiikaa
set_option linter.unusedVariables false
namespace PO
def down (X : List Nat) : List Nat := X.filterMap (fun x => if x = 0 then none else some (x - 1))
theorem in_down {X : List Nat} {j : Nat} : j ∈ down X ↔ j + 1 ∈ X := by
  unfold down
  rw [List.mem_filterMap]
  constructor
  · rintro ⟨a, ha, e⟩
    by_cases h : a = 0
    · rw [if_pos h] at e; cases e
    · rw [if_neg h] at e
      cases e
      rwa [show a - 1 + 1 = a by omega]
  · intro h
    exact ⟨j + 1, h, by simp⟩
theorem held_zero (m : Mem) (l : List Mem) : held (m :: l) 0 = m.2.2.1 := by simp [held, List.getD]
theorem held_succ (m : Mem) (l : List Mem) (j : Nat) : held (m :: l) (j + 1) = held l j := by simp [held, List.getD]
theorem sumH_down {m : Mem} {l : List Mem} (h0 : m.2.2.1 = 0) : ∀ X : List Nat, sumH (m :: l) X = sumH l (down X)
  | [] => by simp [sumH, down]
  | a :: t => by
    have ih := sumH_down (l := l) h0 t
    cases a with
    | zero =>
      have e : down (0 :: t) = down t := by simp [down]
      rw [e, ← ih]
      simp [sumH, held_zero, h0]
    | succ j =>
      have e : down ((j + 1) :: t) = j :: down t := by simp [down]
      rw [e]
      simp [sumH, held_succ] at ih ⊢
      omega
def all (l : List Mem) : Int := sumH l (List.range l.length)
theorem getD_cons (m : Mem) (l : List Mem) (j : Nat) : (m :: l).getD (j + 1) m0 = l.getD j m0 := by simp [List.getD]
theorem new_safe {free c : Int} {l : List Mem} (hm : may free l = true) (hs : safe free l = true) (h1 : 1 ≤ c) (h2 : c ≤ 1048576) (hc : c ≤ free + all l) : safe free ((63, c, 0, 0) :: l) = true := by
  have hok : ok (63, c, 0, 0) = true := (PA.right_iff c 0 0).2 ⟨h1, h2, by omega, by omega, by omega⟩
  have hnd : need (63, c, 0, 0) = c := by
    show PA.need c 0 0 = c
    unfold PA.need
    rw [if_pos (show PA.right c 0 0 = true from hok)]
    omega
  obtain ⟨f0, f1, fa⟩ := may_iff.1 hm
  have hm2 : may free ((63, c, 0, 0) :: l) = true := may_iff.2 ⟨f0, f1, by rw [List.all_cons, hok, fa]; rfl⟩
  refine safe_of_stuck hm2 (fun X hX hXl hXt hn i hi => ?_)
  rw [sumH_down (by rfl)] at hn
  have hdl : ∀ x ∈ down X, x < l.length := fun x hx => by
    have := hXl _ (in_down.1 hx)
    simpa using this
  have hn' : next (free + sumH l (down X)) l (down X) = none := next_none (fun j hj => by
    rcases next_none' hn (j + 1) (by simpa using hj) with h | h
    · exact .inl (in_down.2 h)
    · rw [getD_cons] at h; exact .inr h)
  have hall := safe_stuck hm hs hdl (Int.le_refl free) hn'
  cases i with
  | succ j => exact in_down.1 (hall j (by simpa using hi))
  | zero =>
    rcases next_none' hn 0 (by simp) with h | h
    · exact h
    · have e : ((63, c, 0, 0) :: l : List Mem).getD 0 m0 = (63, c, 0, 0) := by simp [List.getD]
      rw [e, hnd] at h
      have := sumH_sub fa (a := List.range l.length) (b := down X) List.nodup_range hdl (fun x hx => hall x (by simpa using hx))
      unfold all at hc
      omega
/-- Somebody is ready at once. -/
theorem safe_first {free : Int} {l : List Mem} (hm : may free l = true) (hs : safe free l = true) (h0 : 0 < l.length) : ∃ i, i < l.length ∧ need (l.getD i m0) ≤ free := by
  have hl := (safe_iff hm).1 hs
  obtain ⟨_, _, h3, _⟩ := takenAll_spec hm
  obtain ⟨t1, t2⟩ := h3 0 (by omega)
  exact ⟨_, t1, by simpa [sumH] using t2⟩
theorem all_take {l : List Mem} (k : Nat) : sumH l (List.range (k + 1)) = sumH l (List.range k) + held l k := by rw [List.range_succ, sumH_snoc]
theorem safe_may {free : Int} {l : List Mem} (h : safe free l = true) : may free l = true := by
  cases hq : may free l
  · unfold safe order at h; rw [if_pos hq] at h; cases h
  · rfl
end PO
end Go.Proofs.Ythmjbfocpdiikaa
