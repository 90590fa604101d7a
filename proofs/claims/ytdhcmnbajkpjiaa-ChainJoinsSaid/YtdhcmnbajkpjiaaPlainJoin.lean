/-
  Chain: two lists joined, and a node moved, as functions and rows. Plain Lean.
-/
import Derived.Test.YtdhcmnbajkpjiaaPlainChain2
namespace Go.Proofs.Ytdhcmnbajkpjiaa
set_option linter.unusedVariables false

/-- The list f's nodes r, all put behind the list t's. -/
def CS.join (S : CS) (t f : Nat) (r : List Nat) : CS where
  bk := upd S.bk (S.fn f).toNat (S.fb t)
  nx := if 0 ≤ S.fb t then upd S.nx (S.fb t).toNat (S.fn f) else S.nx
  ls := fun y => if y ∈ r then (t : Int) else S.ls y
  fb := upd (upd S.fb t (S.fb f)) f (-1)
  fn := upd (if 0 ≤ S.fb t then S.fn else upd S.fn t (S.fn f)) f (-1)
  fl := upd (upd S.fl t (S.fl t + S.fl f)) f 0

namespace PC
variable {n l : Nat} {S : CS} {R : Nat → List Nat}

def moveC (l : Nat) (R : Nat → List Nat) (i x : Int) : Bool := decide (0 ≤ i ∧ i < l ∧ 0 ≤ ofV l R x)
def moveB (n l : Nat) (R : Nat → List Nat) (i x : Int) : Bool := moveC l R i x && addB n l (dropR l R x) i x
def moveR (n l : Nat) (R : Nat → List Nat) (i x : Int) : Nat → List Nat := if moveC l R i x then addR n l (dropR l R x) i x else R
def joinB (l : Nat) (t f : Int) : Bool := decide (0 ≤ t ∧ t < l ∧ 0 ≤ f ∧ f < l ∧ t ≠ f)
def joinR (l : Nat) (R : Nat → List Nat) (t f : Int) : Nat → List Nat := if joinB l t f then updR (updR R t.toNat (R t.toNat ++ R f.toNat)) f.toNat [] else R

theorem join_empty {t f : Nat} (h : R f = []) : updR (updR R t (R t ++ R f)) f [] = R := by
  funext j
  by_cases e : j = f
  · subst e; rw [updR_same, h]
  · rw [updR_other e]
    by_cases e2 : j = t
    · subst e2; rw [updR_same, h, List.append_nil]
    · rw [updR_other e2]

theorem Inv.join (h : Inv n l S R) {t f : Nat} (ht : t < l) (hf : f < l) (hne : t ≠ f) (hr : R f ≠ []) : Inv n l (S.join t f (R f)) (updR (updR R t (R t ++ R f)) f []) := by
  have hdis : ∀ j, j < l → j ≠ f → ∀ y, y ∈ R j → y ∉ R f := fun j hj e y h1 h2 => e (h.one hj hf h1 h2)
  obtain ⟨hd, e1, hm1⟩ := headD_nat hr
  have hfn : S.fn f = hd := (h.fn f hf).trans e1
  obtain ⟨d, hd'⟩ : ∃ d, R f = hd :: d := by
    cases hR : R f with
    | nil => exact absurd hR hr
    | cons y d =>
      rw [hR, headD_cons] at e1
      have : y = hd := by omega
      subst this
      exact ⟨d, rfl⟩
  have rows : ∀ j, j < l → (j = f ∧ updR (updR R t (R t ++ R f)) f [] j = []) ∨ (j = t ∧ updR (updR R t (R t ++ R f)) f [] j = R t ++ R f) ∨ (j ≠ f ∧ j ≠ t ∧ updR (updR R t (R t ++ R f)) f [] j = R j) := by
    intro j hj
    by_cases a : j = f
    · subst a; exact Or.inl ⟨rfl, updR_same _ _ _⟩
    · by_cases b : j = t
      · subst b; exact Or.inr (Or.inl ⟨rfl, by rw [updR_other a, updR_same]⟩)
      · exact Or.inr (Or.inr ⟨a, b, by rw [updR_other a, updR_other b]⟩)
  have Fbk : ∀ y, y ≠ hd → (S.join t f (R f)).bk y = S.bk y := by
    intro y hy
    simp only [CS.join, hfn, Int.toNat_natCast]
    rw [upd_other hy]
  have Fnx : ∀ y, (∀ z : Nat, lastD (R t) = z → y ≠ z) → (S.join t f (R f)).nx y = S.nx y := by
    intro y hy
    simp only [CS.join]
    split
    · rename_i hp
      rw [h.fb t ht] at hp ⊢
      rw [upd_other (hy _ (by omega))]
    · rfl
  refine ⟨?_, ?_, ?_, ?_, ?_, ?_, ?_, ?_, ?_⟩
  · intro j hj y hy
    rcases rows j hj with ⟨_, e⟩ | ⟨_, e⟩ | ⟨_, _, e⟩ <;> rw [e] at hy
    · simp at hy
    · rcases List.mem_append.1 hy with hy | hy
      · exact h.lt t ht y hy
      · exact h.lt f hf y hy
    · exact h.lt j hj y hy
  · intro j hj
    rcases rows j hj with ⟨_, e⟩ | ⟨_, e⟩ | ⟨_, _, e⟩ <;> rw [e]
    · simp
    · rw [List.nodup_append]
      refine ⟨h.nd t ht, h.nd f hf, fun a ha b hb e => ?_⟩
      subst e
      exact hdis t ht hne a ha hb
    · exact h.nd j hj
  · intro j hj
    simp only [CS.join]
    rcases rows j hj with ⟨a, e⟩ | ⟨a, e⟩ | ⟨a, b, e⟩ <;> rw [e]
    · subst a; rw [upd_same]; simp
    · subst a; rw [upd_other hne, upd_same, h.fl j hj, h.fl f hf]; simp
    · rw [upd_other a, upd_other b]; exact h.fl j hj
  · intro j hj
    simp only [CS.join]
    rcases rows j hj with ⟨a, e⟩ | ⟨a, e⟩ | ⟨a, b, e⟩ <;> rw [e]
    · subst a; rw [upd_same]; rfl
    · subst a
      rw [upd_other hne]
      rcases lastD_cases (R j) with ⟨q1, q2⟩ | ⟨c, u, q1, q2⟩
      · rw [h.fb j hj, if_neg (by omega), upd_same, h.fn f hf, q1]; rfl
      · rw [h.fb j hj, if_pos (by omega), h.fn j hj, headD_append (by rw [q1]; simp)]
    · rw [upd_other a]
      split
      · exact h.fn j hj
      · rw [upd_other b]; exact h.fn j hj
  · intro j hj
    simp only [CS.join]
    rcases rows j hj with ⟨a, e⟩ | ⟨a, e⟩ | ⟨a, b, e⟩ <;> rw [e]
    · subst a; rw [upd_same]; rfl
    · subst a; rw [upd_other hne, upd_same, h.fb f hf, lastD_append hr]
    · rw [upd_other a, upd_other b]; exact h.fb j hj
  · intro j hj y hy
    simp only [CS.join]
    rcases rows j hj with ⟨a, e⟩ | ⟨a, e⟩ | ⟨a, b, e⟩ <;> rw [e] at hy
    · simp at hy
    · subst a
      rcases List.mem_append.1 hy with hy | hy
      · rw [if_neg (hdis j hj hne y hy)]; exact h.ls j hj y hy
      · rw [if_pos hy]
    · rw [if_neg (hdis j hj a y hy)]; exact h.ls j hj y hy
  · intro j hj y c2 d2 hrj
    rcases rows j hj with ⟨a, e⟩ | ⟨a, e⟩ | ⟨a, b, e⟩ <;> rw [e] at hrj
    · simp at hrj
    · subst a
      rcases List.append_eq_append_iff.1 hrj with ⟨m, q1, q2⟩ | ⟨m, q1, q2⟩
      · -- c2 = R j ++ m, R f = m ++ y :: d2
        by_cases hm0 : m = []
        · subst hm0
          simp only [List.nil_append] at q2
          rw [hd'] at q2
          have : y = hd := by injection q2 with q _; exact q.symm
          subst this
          rw [q1, List.append_nil]
          simp only [CS.join, hfn, Int.toNat_natCast]
          rw [upd_same, h.fb j hj]
        · have hyd : y ≠ hd := by
            rintro rfl
            have hn := h.nd f hf
            rw [q2] at hn
            obtain ⟨z, m', rfl⟩ : ∃ z m', m = z :: m' := by
              cases m with
              | nil => exact absurd rfl hm0
              | cons z m' => exact ⟨z, m', rfl⟩
            rw [hd'] at q2
            have : y = z := by injection q2
            subst this
            simp at hn
          rw [Fbk y hyd, h.bk f hf y m d2 q2, q1, lastD_append hm0]
      · cases m with
        | nil =>
          simp only [List.nil_append] at q2
          simp only [List.append_nil] at q1
          rw [hd'] at q2
          have : y = hd := by injection q2
          subst this
          simp only [CS.join, hfn, Int.toNat_natCast]
          rw [upd_same, h.fb j hj, q1]
        | cons z m =>
          simp only [List.cons_append, List.cons.injEq] at q2
          obtain ⟨rfl, q2⟩ := q2
          have hy : y ∈ R j := by rw [q1]; simp
          rw [Fbk y (by rintro rfl; exact hdis j hj hne y hy (by rw [hd']; simp))]
          exact h.bk j hj y c2 m q1
    · have hy : y ∈ R j := by rw [hrj]; simp
      rw [Fbk y (by rintro rfl; exact hdis j hj a y hy (by rw [hd']; simp))]
      exact h.bk j hj y c2 d2 hrj
  · intro j hj y c2 d2 hrj
    rcases rows j hj with ⟨a, e⟩ | ⟨a, e⟩ | ⟨a, b, e⟩ <;> rw [e] at hrj
    · simp at hrj
    · subst a
      rcases List.append_eq_append_iff.1 hrj with ⟨m, q1, q2⟩ | ⟨m, q1, q2⟩
      · have hy : y ∈ R f := by rw [q2]; simp
        rw [Fnx y (fun z hz e2 => by
          subst e2
          rcases lastD_cases (R j) with ⟨k1, k2⟩ | ⟨c, u, k1, k2⟩
          · omega
          · have : u = y := by omega
            subst this
            exact hdis j hj hne u (by rw [k1]; simp) hy)]
        exact h.nx f hf y m d2 q2
      · cases m with
        | nil =>
          simp only [List.nil_append] at q2
          have hy : y ∈ R f := by rw [← q2]; simp
          rw [Fnx y (fun z hz e2 => by
            subst e2
            rcases lastD_cases (R j) with ⟨k1, k2⟩ | ⟨c, u, k1, k2⟩
            · omega
            · have : u = y := by omega
              subst this
              exact hdis j hj hne u (by rw [k1]; simp) hy)]
          exact h.nx f hf y [] d2 (by simpa using q2.symm)
        | cons z m =>
          simp only [List.cons_append, List.cons.injEq] at q2
          obtain ⟨rfl, q2⟩ := q2
          by_cases hm0 : m = []
          · subst hm0
            simp only [List.nil_append] at q2
            simp only [CS.join]
            have hl : lastD (R j) = y := by rw [q1, lastD_snoc]
            rw [h.fb j hj, hl, if_pos (by omega), Int.toNat_natCast, upd_same, h.fn f hf, q2]
          · rw [Fnx y (fun z hz e2 => by
              subst e2
              have hn := h.nd j hj
              rw [q1, show c2 ++ y :: m = (c2 ++ [y]) ++ m by simp, lastD_append hm0] at hz
              obtain ⟨u, k1, k2⟩ := lastD_nat hm0
              have : u = y := by omega
              subst this
              rw [q1, List.nodup_append] at hn
              exact (List.nodup_cons.1 hn.2.1).1 k2)]
            rw [h.nx j hj y c2 m q1, q2, headD_append hm0]
    · have hy : y ∈ R j := by rw [hrj]; simp
      rw [Fnx y (fun z hz e2 => by
        subst e2
        rcases lastD_cases (R t) with ⟨k1, k2⟩ | ⟨c, u, k1, k2⟩
        · omega
        · have : u = y := by omega
          subst this
          exact b (h.one hj ht hy (by rw [k1]; simp)))]
      exact h.nx j hj y c2 d2 hrj
  · intro y hy hn
    have hn' : ∀ j, j < l → y ∉ R j := by
      intro j hj hm
      by_cases a : j = f
      · subst a
        refine hn t ht ?_
        rw [updR_other hne, updR_same]; simp [hm]
      · refine hn j hj ?_
        rw [updR_other a]
        by_cases b : j = t
        · subst b; rw [updR_same]; simp [hm]
        · rw [updR_other b]; exact hm
    obtain ⟨g1, g2, g3⟩ := h.no y hy hn'
    refine ⟨?_, ?_, ?_⟩
    · simp only [CS.join]
      rw [if_neg (hn' f hf)]; exact g1
    · rw [Fbk y (by rintro rfl; exact hn' f hf hm1)]; exact g2
    · rw [Fnx y (fun z hz e2 => by
        subst e2
        rcases lastD_cases (R t) with ⟨k1, k2⟩ | ⟨c, u, k1, k2⟩
        · omega
        · have : u = y := by omega
          subst this
          exact hn' t ht (by rw [k1]; simp))]
      exact g3
end PC
end Go.Proofs.Ytdhcmnbajkpjiaa
