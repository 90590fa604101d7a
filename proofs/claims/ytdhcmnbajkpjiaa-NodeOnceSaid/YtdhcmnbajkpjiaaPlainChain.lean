/-
  Chain, as functions and rows: plain Lean, no program.
-/
namespace Go.Proofs.Ytdhcmnbajkpjiaa
set_option linter.unusedVariables false

/-- A chain's state: of each node what is ahead, behind, and its list; of each list its last and first node, and how many. -/
structure CS where
  bk : Nat → Int
  nx : Nat → Int
  ls : Nat → Int
  fb : Nat → Int
  fn : Nat → Int
  fl : Nat → Int

def upd (f : Nat → Int) (x : Nat) (v : Int) : Nat → Int := fun i => if i = x then v else f i
theorem upd_same (f : Nat → Int) (x : Nat) (v : Int) : upd f x v x = v := by simp [upd]
theorem upd_other {f : Nat → Int} {x i : Nat} {v : Int} (h : i ≠ x) : upd f x v i = f i := by simp [upd, h]

/-- A node is put behind the list's last one. -/
def CS.add (S : CS) (i x : Nat) : CS where
  bk := upd S.bk x (S.fb i)
  nx := if 0 ≤ S.fb i then upd (upd S.nx x (-1)) (S.fb i).toNat x else upd S.nx x (-1)
  ls := upd S.ls x i
  fb := upd S.fb i x
  fn := if 0 ≤ S.fb i then S.fn else upd S.fn i x
  fl := upd S.fl i (S.fl i + 1)

/-- A node is taken out of its list. -/
def CS.drop (S : CS) (x : Nat) : CS where
  bk := upd (if 0 ≤ S.nx x then upd S.bk (S.nx x).toNat (S.bk x) else S.bk) x (-1)
  nx := upd (if 0 ≤ S.bk x then upd S.nx (S.bk x).toNat (S.nx x) else S.nx) x (-1)
  ls := upd S.ls x (-1)
  fb := if 0 ≤ S.nx x then S.fb else upd S.fb (S.ls x).toNat (S.bk x)
  fn := if 0 ≤ S.bk x then S.fn else upd S.fn (S.ls x).toNat (S.nx x)
  fl := upd S.fl (S.ls x).toNat (S.fl (S.ls x).toNat - 1)

namespace PC

def lastD (a : List Nat) : Int := match a.getLast? with | some x => x | none => -1
def headD (a : List Nat) : Int := match a with | x :: _ => x | [] => -1
def updR (R : Nat → List Nat) (i : Nat) (r : List Nat) : Nat → List Nat := fun j => if j = i then r else R j
theorem updR_same (R : Nat → List Nat) (i : Nat) (r : List Nat) : updR R i r i = r := by simp [updR]
theorem updR_other {R : Nat → List Nat} {i j : Nat} {r : List Nat} (h : j ≠ i) : updR R i r j = R j := by simp [updR, h]

@[simp] theorem lastD_nil : lastD [] = -1 := rfl
@[simp] theorem lastD_snoc (a : List Nat) (x : Nat) : lastD (a ++ [x]) = x := by simp [lastD]
@[simp] theorem headD_nil : headD [] = -1 := rfl
@[simp] theorem headD_cons (x : Nat) (a : List Nat) : headD (x :: a) = x := rfl
theorem headD_append {a b : List Nat} (h : a ≠ []) : headD (a ++ b) = headD a := by
  cases a with
  | nil => exact absurd rfl h
  | cons x a => rfl
theorem lastD_append {a b : List Nat} (h : b ≠ []) : lastD (a ++ b) = lastD b := by
  rcases List.eq_nil_or_concat b with e | ⟨c, y, e⟩
  · exact absurd e h
  · rw [e, List.concat_eq_append, ← List.append_assoc, lastD_snoc, lastD_snoc]
theorem lastD_cons (a : List Nat) (x : Nat) (b : List Nat) : lastD (a ++ x :: b) = lastD (x :: b) := lastD_append (by simp)
theorem lastD_nat {a : List Nat} (h : a ≠ []) : ∃ y : Nat, lastD a = y ∧ y ∈ a := by
  rcases List.eq_nil_or_concat a with e | ⟨c, y, e⟩
  · exact absurd e h
  · exact ⟨y, by rw [e, List.concat_eq_append, lastD_snoc], by simp [e]⟩
theorem headD_nat {a : List Nat} (h : a ≠ []) : ∃ y : Nat, headD a = y ∧ y ∈ a := by
  cases a with
  | nil => exact absurd rfl h
  | cons x a => exact ⟨x, rfl, by simp⟩
theorem lastD_cases (a : List Nat) : (a = [] ∧ lastD a = -1) ∨ ∃ c y, a = c ++ [y] ∧ lastD a = (y : Nat) := by
  rcases List.eq_nil_or_concat a with e | ⟨c, y, e⟩
  · exact Or.inl ⟨e, by rw [e]; rfl⟩
  · exact Or.inr ⟨c, y, by rw [e, List.concat_eq_append], by rw [e, List.concat_eq_append, lastD_snoc]⟩
theorem headD_cases (a : List Nat) : (a = [] ∧ headD a = -1) ∨ ∃ c y, a = y :: c ∧ headD a = (y : Nat) := by
  cases a with
  | nil => exact Or.inl ⟨rfl, rfl⟩
  | cons x a => exact Or.inr ⟨a, x, rfl, rfl⟩

/-- What a chain's state says of its rows. -/
structure Inv (n l : Nat) (S : CS) (R : Nat → List Nat) : Prop where
  lt : ∀ i, i < l → ∀ x ∈ R i, x < n
  nd : ∀ i, i < l → (R i).Nodup
  fl : ∀ i, i < l → S.fl i = (R i).length
  fn : ∀ i, i < l → S.fn i = headD (R i)
  fb : ∀ i, i < l → S.fb i = lastD (R i)
  ls : ∀ i, i < l → ∀ x ∈ R i, S.ls x = i
  bk : ∀ i, i < l → ∀ x a b, R i = a ++ x :: b → S.bk x = lastD a
  nx : ∀ i, i < l → ∀ x a b, R i = a ++ x :: b → S.nx x = headD b
  no : ∀ x, x < n → (∀ i, i < l → x ∉ R i) → S.ls x = -1 ∧ S.bk x = -1 ∧ S.nx x = -1

theorem length_le : ∀ (m : Nat) (r : List Nat), r.Nodup → (∀ x ∈ r, x < m) → r.length ≤ m
  | 0, r, _, h => by
    cases r with
    | nil => simp
    | cons x r => exact absurd (h x (by simp)) (by omega)
  | m + 1, r, hd, h => by
    have h1 := length_le m (r.erase m) (hd.erase m) (fun x hx => by
      have hx' := (List.Nodup.mem_erase_iff hd).1 hx
      have := h x hx'.2
      have := hx'.1
      omega)
    have h2 := List.length_erase (a := m) (l := r)
    split at h2 <;> omega

variable {n l : Nat} {S : CS} {R : Nat → List Nat}

theorem Inv.len (h : Inv n l S R) {i : Nat} (hi : i < l) : (R i).length ≤ n := length_le n _ (h.nd i hi) (h.lt i hi)

theorem Inv.node (h : Inv n l S R) {x : Nat} (hx : x < n) : (∃ i, i < l ∧ x ∈ R i ∧ S.ls x = i) ∨ ((∀ i, i < l → x ∉ R i) ∧ S.ls x = -1 ∧ S.bk x = -1 ∧ S.nx x = -1) := by
  by_cases hh : ∃ i, i < l ∧ x ∈ R i
  · obtain ⟨i, hi, hm⟩ := hh
    exact Or.inl ⟨i, hi, hm, h.ls i hi x hm⟩
  · have h' : ∀ i, i < l → x ∉ R i := fun i hi hm => hh ⟨i, hi, hm⟩
    exact Or.inr ⟨h', h.no x hx h'⟩

theorem split_unique {x : Nat} {a b c d : List Nat} (hd : (a ++ x :: b).Nodup) (e : a ++ x :: b = c ++ x :: d) : a = c ∧ b = d := by
  induction a generalizing c with
  | nil =>
    cases c with
    | nil => simpa using e
    | cons y c =>
      simp only [List.nil_append, List.cons_append, List.cons.injEq] at e
      obtain ⟨rfl, rfl⟩ := e
      simp at hd
  | cons z a ih =>
    cases c with
    | nil =>
      simp only [List.nil_append, List.cons_append, List.cons.injEq] at e
      obtain ⟨rfl, rfl⟩ := e
      simp at hd
    | cons y c =>
      simp only [List.cons_append, List.cons.injEq] at e
      obtain ⟨rfl, e⟩ := e
      simp only [List.cons_append, List.nodup_cons] at hd
      obtain ⟨rfl, rfl⟩ := ih hd.2 e
      exact ⟨rfl, rfl⟩

theorem Inv.add (h : Inv n l S R) {i x : Nat} (hi : i < l) (hx : x < n) (hs : S.ls x < 0) : Inv n l (S.add i x) (updR R i (R i ++ [x])) := by
  have hno : ∀ j, j < l → x ∉ R j := fun j hj hm => by have := h.ls j hj x hm; omega
  have hfb := h.fb i hi
  refine ⟨?_, ?_, ?_, ?_, ?_, ?_, ?_, ?_, ?_⟩
  · intro j hj y hy
    by_cases e : j = i
    · subst e
      rw [updR_same] at hy
      rcases List.mem_append.1 hy with hy | hy
      · exact h.lt j hj y hy
      · simp at hy; omega
    · rw [updR_other e] at hy; exact h.lt j hj y hy
  · intro j hj
    by_cases e : j = i
    · subst e
      rw [updR_same, List.nodup_append]
      refine ⟨h.nd j hj, by simp, ?_⟩
      intro a ha b hb e
      simp at hb
      subst hb; subst e
      exact hno j hj ha
    · rw [updR_other e]; exact h.nd j hj
  · intro j hj
    simp only [CS.add]
    by_cases e : j = i
    · subst e
      rw [updR_same, upd_same, h.fl j hj]; simp
    · rw [updR_other e, upd_other e]; exact h.fl j hj
  · intro j hj
    simp only [CS.add]
    by_cases e : j = i
    · subst e
      rw [updR_same]
      rcases lastD_cases (R j) with ⟨e1, e2⟩ | ⟨c, y, e1, e2⟩
      · rw [if_neg (by omega), upd_same, e1]; rfl
      · rw [if_pos (by omega), headD_append (by rw [e1]; simp)]; exact h.fn j hj
    · rw [updR_other e]
      split
      · exact h.fn j hj
      · rw [upd_other e]; exact h.fn j hj
  · intro j hj
    simp only [CS.add]
    by_cases e : j = i
    · subst e
      rw [updR_same, upd_same, lastD_snoc]
    · rw [updR_other e, upd_other e]; exact h.fb j hj
  · intro j hj y hy
    simp only [CS.add]
    by_cases e : j = i
    · subst e
      rw [updR_same] at hy
      by_cases e2 : y = x
      · subst e2; rw [upd_same]
      · rw [upd_other e2]
        exact h.ls j hj y (by rcases List.mem_append.1 hy with hy | hy; exact hy; simp at hy; omega)
    · rw [updR_other e] at hy
      rw [upd_other (by rintro rfl; exact hno j hj hy)]
      exact h.ls j hj y hy
  · intro j hj y a b hr
    simp only [CS.add]
    by_cases e : j = i
    · subst e
      rw [updR_same] at hr
      rcases List.eq_nil_or_concat b with e1 | ⟨b', z, e1⟩
      · subst e1
        obtain ⟨rfl, hr⟩ := List.append_inj' hr rfl
        simp at hr; subst hr
        rw [upd_same, hfb]
      · rw [List.concat_eq_append] at e1
        subst e1
        rw [← List.cons_append, ← List.append_assoc] at hr
        obtain ⟨hr2, hz⟩ := List.append_inj' hr rfl
        rw [upd_other (by rintro rfl; exact hno j hj (by rw [hr2]; simp))]
        exact h.bk j hj y a b' hr2
    · rw [updR_other e] at hr
      rw [upd_other (by rintro rfl; exact hno j hj (by rw [hr]; simp))]
      exact h.bk j hj y a b hr
  · intro j hj y a b hr
    simp only [CS.add]
    by_cases e : j = i
    · subst e
      rw [updR_same] at hr
      rcases List.eq_nil_or_concat b with e1 | ⟨b', z, e1⟩
      · subst e1
        obtain ⟨hr', hr⟩ := List.append_inj' hr rfl
        simp at hr; subst hr
        rcases lastD_cases (R j) with ⟨f1, f2⟩ | ⟨c, u, f1, f2⟩
        · rw [if_neg (by omega), upd_same]; rfl
        · rw [if_pos (by omega), upd_other, upd_same]; · rfl
          rw [hfb, f2, Int.toNat_natCast]
          rintro rfl
          exact hno j hj (by rw [f1]; simp)
      · rw [List.concat_eq_append] at e1
        subst e1
        rw [← List.cons_append, ← List.append_assoc] at hr
        obtain ⟨hr2, hz⟩ := List.append_inj' hr rfl
        have hz' : x = z := by simpa using hz
        subst hz'
        clear hr hz
        have hyx : y ≠ x := by rintro rfl; exact hno j hj (by rw [hr2]; simp)
        rcases lastD_cases (R j) with ⟨f1, f2⟩ | ⟨c, u, f1, f2⟩
        · rw [f1] at hr2; simp at hr2
        · rw [if_pos (by omega), hfb, f2, Int.toNat_natCast]
          by_cases hu : y = u
          · subst hu
            have hd := h.nd j hj
            have e3 : [] = b' := (split_unique (x := y) (a := c) (b := []) (c := a) (d := b') (by rw [← f1]; exact hd) (by rw [← f1]; exact hr2)).2
            subst e3
            rw [upd_same]; rfl
          · rw [upd_other hu, upd_other hyx]
            have hb' : b' ≠ [] := by
              rintro rfl
              rw [f1] at hr2
              obtain ⟨-, e3⟩ := List.append_inj' hr2 rfl
              simp at e3; omega
            rw [headD_append hb']
            exact h.nx j hj y a b' hr2
    · rw [updR_other e] at hr
      have hy : y ∈ R j := by rw [hr]; simp
      have hyx : y ≠ x := by rintro rfl; exact hno j hj hy
      rcases lastD_cases (R i) with ⟨f1, f2⟩ | ⟨c, u, f1, f2⟩
      · rw [if_neg (by omega), upd_other hyx]; exact h.nx j hj y a b hr
      · rw [if_pos (by omega), hfb, f2, Int.toNat_natCast]
        have hu : y ≠ u := by
          rintro rfl
          have h1 := h.ls j hj y hy
          have h2 := h.ls i hi y (by rw [f1]; simp)
          omega
        rw [upd_other hu, upd_other hyx]
        exact h.nx j hj y a b hr
  · intro y hy hn
    have hyx : y ≠ x := by rintro rfl; exact hn i hi (by rw [updR_same]; simp)
    have hn' : ∀ j, j < l → y ∉ R j := by
      intro j hj hm
      refine hn j hj ?_
      by_cases e : j = i
      · subst e; rw [updR_same]; simp [hm]
      · rw [updR_other e]; exact hm
    obtain ⟨g1, g2, g3⟩ := h.no y hy hn'
    simp only [CS.add]
    refine ⟨by rw [upd_other hyx]; exact g1, by rw [upd_other hyx]; exact g2, ?_⟩
    rcases lastD_cases (R i) with ⟨f1, f2⟩ | ⟨c, u, f1, f2⟩
    · rw [if_neg (by omega), upd_other hyx]; exact g3
    · rw [if_pos (by omega), hfb, f2, Int.toNat_natCast, upd_other, upd_other hyx]; · exact g3
      rintro rfl
      exact hn' i hi (by rw [f1]; simp)


theorem Inv.drop (h : Inv n l S R) {i x : Nat} {a b : List Nat} (hi : i < l) (hr : R i = a ++ x :: b) : Inv n l (S.drop x) (updR R i (a ++ b)) := by
  have hm : x ∈ R i := by rw [hr]; simp
  have hx := h.lt i hi x hm
  have hls := h.ls i hi x hm
  have hbk := h.bk i hi x a b hr
  have hnx := h.nx i hi x a b hr
  have hnd := h.nd i hi
  have hfb := h.fb i hi
  have hfn := h.fn i hi
  have hfl := h.fl i hi
  have hnd2 := hnd
  rw [hr] at hnd2
  have hxa : x ∉ a := by intro hh; rw [List.nodup_append] at hnd2; exact hnd2.2.2 x hh x (by simp) rfl
  have hxb : x ∉ b := by rw [List.nodup_append] at hnd2; exact (List.nodup_cons.1 hnd2.2.1).1
  have hab : ∀ y, y ∈ a → y ∉ b := by intro y ha hb; rw [List.nodup_append] at hnd2; exact hnd2.2.2 y ha y (by simp [hb]) rfl
  have hoth : ∀ j, j < l → j ≠ i → ∀ y, y ∈ R j → y ∉ R i := by
    intro j hj e y h1 h2
    have := h.ls j hj y h1
    have := h.ls i hi y h2
    omega
  -- the state's fields at any node but x, and its list but i
  have Fbk : ∀ y, y ≠ x → (b ≠ [] → headD b ≠ y) → (S.drop x).bk y = S.bk y := by
    intro y hy hh
    simp only [CS.drop]
    rw [upd_other hy]
    split
    · rw [hnx]
      rcases headD_cases b with ⟨e1, e2⟩ | ⟨c, u, e1, e2⟩
      · omega
      · rw [e2, Int.toNat_natCast, upd_other]
        intro e; exact hh (by rw [e1]; simp) (by omega)
    · rfl
  have Fnx : ∀ y, y ≠ x → (a ≠ [] → lastD a ≠ y) → (S.drop x).nx y = S.nx y := by
    intro y hy hh
    simp only [CS.drop]
    rw [upd_other hy]
    split
    · rw [hbk]
      rcases lastD_cases a with ⟨e1, e2⟩ | ⟨c, u, e1, e2⟩
      · omega
      · rw [e2, Int.toNat_natCast, upd_other]
        intro e; exact hh (by rw [e1]; simp) (by omega)
    · rfl
  have Fls : ∀ y, y ≠ x → (S.drop x).ls y = S.ls y := by
    intro y hy
    simp only [CS.drop]
    rw [upd_other hy]
  have Ghd : ∀ y, y ∉ b → b ≠ [] → headD b ≠ y := by
    intro y hy hb e
    obtain ⟨u, e2, e3⟩ := headD_nat hb
    have : u = y := by omega
    exact hy (this ▸ e3)
  have Gla : ∀ y, y ∉ a → a ≠ [] → lastD a ≠ y := by
    intro y hy hb e
    obtain ⟨u, e2, e3⟩ := lastD_nat hb
    have : u = y := by omega
    exact hy (this ▸ e3)
  have Hout : ∀ y, y ∉ R i → y ≠ x ∧ y ∉ a ∧ y ∉ b := by
    intro y hy
    refine ⟨fun e => hy (e ▸ hm), fun e => hy (by rw [hr]; simp [e]), fun e => hy (by rw [hr]; simp [e])⟩
  refine ⟨?_, ?_, ?_, ?_, ?_, ?_, ?_, ?_, ?_⟩
  · intro j hj y hy
    by_cases e : j = i
    · subst e
      rw [updR_same] at hy
      refine h.lt j hj y ?_
      rw [hr]
      rcases List.mem_append.1 hy with hy | hy <;> simp [hy]
    · rw [updR_other e] at hy; exact h.lt j hj y hy
  · intro j hj
    by_cases e : j = i
    · subst e
      rw [updR_same]
      rw [List.nodup_append] at hnd2 ⊢
      exact ⟨hnd2.1, (List.nodup_cons.1 hnd2.2.1).2, fun u hu v hv => hnd2.2.2 u hu v (by simp [hv])⟩
    · rw [updR_other e]; exact h.nd j hj
  · intro j hj
    simp only [CS.drop, hls, Int.toNat_natCast]
    by_cases e : j = i
    · subst e
      rw [updR_same, upd_same, hfl, hr]; simp; omega
    · rw [updR_other e, upd_other e]; exact h.fl j hj
  · intro j hj
    simp only [CS.drop, hls, Int.toNat_natCast, hbk, hnx]
    by_cases e : j = i
    · subst e
      rw [updR_same]
      rcases lastD_cases a with ⟨e1, e2⟩ | ⟨c, u, e1, e2⟩
      · rw [if_neg (by omega), upd_same, e1]; rfl
      · rw [if_pos (by omega), hfn, hr, headD_append (by rw [e1]; simp), headD_append (by rw [e1]; simp)]
    · rw [updR_other e]
      split
      · exact h.fn j hj
      · rw [upd_other e]; exact h.fn j hj
  · intro j hj
    simp only [CS.drop, hls, Int.toNat_natCast, hbk, hnx]
    by_cases e : j = i
    · subst e
      rw [updR_same]
      rcases headD_cases b with ⟨e1, e2⟩ | ⟨c, u, e1, e2⟩
      · rw [if_neg (by omega), upd_same, e1]; simp
      · rw [if_pos (by omega), hfb, hr, lastD_cons, e1, lastD_append (by simp), show x :: u :: c = [x] ++ u :: c by rfl, lastD_append (by simp)]
    · rw [updR_other e]
      split
      · exact h.fb j hj
      · rw [upd_other e]; exact h.fb j hj
  · intro j hj y hy
    by_cases e : j = i
    · subst e
      rw [updR_same] at hy
      have hyx : y ≠ x := by
        rintro rfl
        rcases List.mem_append.1 hy with hy | hy
        · exact hxa hy
        · exact hxb hy
      rw [Fls y hyx]
      refine h.ls j hj y ?_
      rw [hr]
      rcases List.mem_append.1 hy with hy | hy <;> simp [hy]
    · rw [updR_other e] at hy
      rw [Fls y (Hout y (hoth j hj e y hy)).1]
      exact h.ls j hj y hy
  · intro j hj y c d hrj
    by_cases e : j = i
    · subst e
      rw [updR_same] at hrj
      rcases List.append_eq_append_iff.1 hrj with ⟨m, e1, e2⟩ | ⟨m, e1, e2⟩
      · -- c = a ++ m, b = m ++ y :: d
        have hyb : y ∈ b := by rw [e2]; simp
        have hyx : y ≠ x := by rintro rfl; exact hxb hyb
        by_cases hm0 : m = []
        · subst hm0
          simp only [List.nil_append] at e2
          simp only [CS.drop]
          rw [upd_other hyx, hnx, e2, headD_cons, if_pos (by omega), Int.toNat_natCast, upd_same, hbk, e1, List.append_nil]
        · obtain ⟨z, m', rfl⟩ : ∃ z m', m = z :: m' := by
            cases m with
            | nil => exact absurd rfl hm0
            | cons z m' => exact ⟨z, m', rfl⟩
          rw [Fbk y hyx]
          · have := h.bk j hj y (a ++ x :: z :: m') d (by rw [hr, e2]; simp)
            rw [this, e1, lastD_cons, lastD_append (by simp), show x :: z :: m' = [x] ++ z :: m' by rfl, lastD_append (by simp)]
          · intro _
            rw [e2]
            simp only [List.cons_append, headD_cons]
            intro e
            have e' : z = y := by omega
            subst e'
            rw [e2] at hnd2
            rw [List.nodup_append] at hnd2
            have h3 := (List.nodup_cons.1 hnd2.2.1).2
            simp at h3
      · -- a = c ++ m, y :: d = m ++ b
        cases m with
        | nil =>
          simp only [List.nil_append] at e2
          simp only [List.append_nil] at e1
          have hyb : y ∈ b := by rw [← e2]; simp
          have hyx : y ≠ x := by rintro rfl; exact hxb hyb
          simp only [CS.drop]
          rw [upd_other hyx, hnx, ← e2, headD_cons, if_pos (by omega), Int.toNat_natCast, upd_same, hbk, e1]
        | cons z m =>
          simp only [List.cons_append, List.cons.injEq] at e2
          obtain ⟨rfl, e2⟩ := e2
          have hya : y ∈ a := by rw [e1]; simp
          rw [Fbk y (by rintro rfl; exact hxa hya) (Ghd y (hab y hya))]
          exact h.bk j hj y c (m ++ x :: b) (by rw [hr, e1]; simp)
    · rw [updR_other e] at hrj
      have hy : y ∈ R j := by rw [hrj]; simp
      obtain ⟨g1, g2, g3⟩ := Hout y (hoth j hj e y hy)
      rw [Fbk y g1 (Ghd y g3)]
      exact h.bk j hj y c d hrj
  · intro j hj y c d hrj
    by_cases e : j = i
    · subst e
      rw [updR_same] at hrj
      rcases List.append_eq_append_iff.1 hrj with ⟨m, e1, e2⟩ | ⟨m, e1, e2⟩
      · have hyb : y ∈ b := by rw [e2]; simp
        have hya : y ∉ a := fun ha => hab y ha hyb
        rw [Fnx y (by rintro rfl; exact hxb hyb) (Gla y hya)]
        exact h.nx j hj y (a ++ x :: m) d (by rw [hr, e2]; simp)
      · cases m with
        | nil =>
          simp only [List.nil_append] at e2
          have hyb : y ∈ b := by rw [← e2]; simp
          have hya : y ∉ a := fun ha => hab y ha hyb
          rw [Fnx y (by rintro rfl; exact hxb hyb) (Gla y hya)]
          exact h.nx j hj y (a ++ [x]) d (by rw [hr, ← e2]; simp)
        | cons z m =>
          simp only [List.cons_append, List.cons.injEq] at e2
          obtain ⟨rfl, e2⟩ := e2
          have hya : y ∈ a := by rw [e1]; simp
          have hyx : y ≠ x := by rintro rfl; exact hxa hya
          by_cases hm0 : m = []
          · subst hm0
            simp only [List.nil_append] at e2
            simp only [CS.drop]
            rw [upd_other hyx, hbk, e1, lastD_snoc, if_pos (by omega), Int.toNat_natCast, upd_same, hnx, e2]
          · rw [Fnx y hyx]
            · have := h.nx j hj y c (m ++ x :: b) (by rw [hr, e1]; simp)
              rw [this, e2, headD_append hm0, headD_append hm0]
            · intro _
              rw [e1, show c ++ y :: m = (c ++ [y]) ++ m by simp, lastD_append hm0]
              intro e
              obtain ⟨u, e3, e4⟩ := lastD_nat hm0
              have e' : u = y := by omega
              subst e'
              have h3 : a.Nodup := by rw [List.nodup_append] at hnd2; exact hnd2.1
              rw [e1, List.nodup_append] at h3
              exact (List.nodup_cons.1 h3.2.1).1 e4
    · rw [updR_other e] at hrj
      have hy : y ∈ R j := by rw [hrj]; simp
      obtain ⟨g1, g2, g3⟩ := Hout y (hoth j hj e y hy)
      rw [Fnx y g1 (Gla y g2)]
      exact h.nx j hj y c d hrj
  · intro y hy hn
    by_cases e : y = x
    · subst e
      simp [CS.drop, upd]
    · have hn' : ∀ j, j < l → y ∉ R j := by
        intro j hj hh
        refine hn j hj ?_
        by_cases e2 : j = i
        · subst e2
          rw [updR_same]
          rw [hr] at hh
          simp only [List.mem_append, List.mem_cons] at hh ⊢
          rcases hh with hh | hh | hh
          · exact Or.inl hh
          · exact absurd hh e
          · exact Or.inr hh
        · rw [updR_other e2]; exact hh
      obtain ⟨g1, g2, g3⟩ := Hout y (hn' i hi)
      obtain ⟨f1, f2, f3⟩ := h.no y hy hn'
      exact ⟨by rw [Fls y e]; exact f1, by rw [Fbk y e (Ghd y g3)]; exact f2, by rw [Fnx y e (Gla y g2)]; exact f3⟩

end PC
end Go.Proofs.Ytdhcmnbajkpjiaa
