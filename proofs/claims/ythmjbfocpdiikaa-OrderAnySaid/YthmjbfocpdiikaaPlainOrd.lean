/-
  Plain: runs of members, one behind the other; sorted members; how many are lacking; whether an order is right.
-/
import Derived.Test.YthmjbfocpdiikaaPlainMem4
namespace Go.Proofs.Ythmjbfocpdiikaa
set_option linter.unusedVariables false
namespace PO
/-- Each may end in its turn. -/
def Runs : Int → List Mem → Prop
  | _, [] => True
  | f, m :: t => need m ≤ f ∧ Runs (f + m.2.2.1) t
theorem sum_cons (l : List Mem) (a : Nat) (t : List Nat) : sumH l (a :: t) = held l a + sumH l t := by simp [sumH]
theorem turn_cons {l : List Mem} {f : Int} {a : Nat} {t : List Nat} : Turn l f (a :: t) ↔ (a < l.length ∧ need (l.getD a m0) ≤ f) ∧ Turn l (f + held l a) t := by
  constructor
  · intro h
    refine ⟨by simpa [sumH] using h 0 (by simp), fun j hj => ?_⟩
    have := h (j + 1) (by simpa using hj)
    have e : (a :: t).getD (j + 1) 0 = t.getD j 0 := by simp [List.getD]
    rw [e, List.take_succ_cons, sum_cons] at this
    exact ⟨this.1, by omega⟩
  · rintro ⟨⟨h1, h2⟩, h3⟩ j hj
    cases j with
    | zero => exact ⟨by simpa using h1, by simpa [sumH] using h2⟩
    | succ j =>
      have := h3 j (by simpa using hj)
      have e : (a :: t).getD (j + 1) 0 = t.getD j 0 := by simp [List.getD]
      rw [e, List.take_succ_cons, sum_cons]
      exact ⟨this.1, by omega⟩
theorem turn_runs {l : List Mem} : ∀ {q : List Nat} {f : Int}, (∀ x ∈ q, x < l.length) → (Turn l f q ↔ Runs f (q.map (fun i => l.getD i m0)))
  | [], f, _ => ⟨fun _ => trivial, fun _ => turn_nil l f⟩
  | a :: t, f, h => by
    rw [turn_cons, turn_runs (q := t) (fun x hx => h x (List.mem_cons_of_mem _ hx))]
    have := h a List.mem_cons_self
    simp only [List.map_cons, Runs, held]
    constructor
    · rintro ⟨⟨_, h2⟩, h3⟩; exact ⟨h2, h3⟩
    · rintro ⟨h2, h3⟩; exact ⟨⟨this, h2⟩, h3⟩
theorem perm_map {α β : Type} (g : α → β) {p ys : List β} (h : p.Perm ys) : ∀ xs : List α, ys = xs.map g → ∃ q : List α, q.Perm xs ∧ q.map g = p := by
  induction h with
  | nil => intro xs e; exact ⟨xs, List.Perm.refl _, e.symm⟩
  | cons x _ ih =>
    intro xs e
    cases xs with
    | nil => cases e
    | cons a t =>
      simp only [List.map_cons, List.cons.injEq] at e
      obtain ⟨q, h1, h2⟩ := ih t e.2
      exact ⟨a :: q, h1.cons a, by simp [h2, e.1]⟩
  | swap x y t =>
    intro xs e
    match xs, e with
    | a :: b :: t', e =>
      simp only [List.map_cons, List.cons.injEq] at e
      exact ⟨b :: a :: t', List.Perm.swap a b t', by simp [e.1, e.2.1, e.2.2]⟩
  | trans _ _ ih1 ih2 =>
    intro xs e
    obtain ⟨q, h1, h2⟩ := ih2 xs e
    obtain ⟨q', h3, h4⟩ := ih1 q h2.symm
    exact ⟨q', h3.trans h1, h4⟩
theorem self_map (l : List Mem) : l = (List.range l.length).map (fun i => l.getD i m0) := by
  apply List.ext_getElem?
  intro i
  rcases Nat.lt_or_ge i l.length with h | h
  · rw [List.getElem?_map, List.getElem?_range h, List.getElem?_eq_getElem h]
    simp [List.getD, h]
  · rw [List.getElem?_eq_none h, List.getElem?_eq_none (by simpa using h)]
theorem perm_idx {p l : List Mem} (h : p.Perm l) : ∃ q : List Nat, q.Perm (List.range l.length) ∧ q.map (fun i => l.getD i m0) = p :=
  perm_map (fun i => l.getD i m0) h (List.range l.length) (self_map l)
/-- Whoever runs at less, and a set that nobody goes on from: all are in it. -/
theorem runs_stuck {l p : List Mem} (ha : l.all ok = true) (hp : p.Perm l) {f f' : Int} (hr : Runs f p) {X : List Nat} (hX : ∀ x ∈ X, x < l.length) (hff : f ≤ f') (hn : next (f' + sumH l X) l X = none) (i : Nat) (hi : i < l.length) : i ∈ X := by
  obtain ⟨q, hq, e⟩ := perm_idx hp
  have hql : ∀ x ∈ q, x < l.length := fun x hx => by simpa using hq.mem_iff.1 hx
  rw [← e] at hr
  exact turn_within ha (hq.nodup_iff.2 List.nodup_range) ((turn_runs hql).2 hr) hX hff hn i (hq.mem_iff.2 (by simpa using hi))
theorem all_runs {l : List Mem} {f : Int} {d : List Nat} (h1 : d.Nodup) (h2 : ∀ x ∈ d, x < l.length) (h3 : Turn l f d) (hl : d.length = l.length) : ∃ p : List Mem, p.Perm l ∧ Runs f p := by
  have hperm : d.Perm (List.range l.length) := (List.perm_ext_iff_of_nodup h1 List.nodup_range).2 (fun a => by
    rw [List.mem_range]
    exact ⟨h2 a, fun ha => all_in _ _ h1 h2 hl a ha⟩)
  refine ⟨d.map (fun i => l.getD i m0), ?_, (turn_runs h2).1 h3⟩
  have := hperm.map (fun i => l.getD i m0)
  rwa [← self_map] at this
/-- All may end just if some order runs. -/
theorem safe_runs {l : List Mem} {f : Int} (hm : may f l = true) : safe f l = true ↔ ∃ p : List Mem, p.Perm l ∧ Runs f p := by
  constructor
  · intro hs
    obtain ⟨h1, h2, h3, _⟩ := takenAll_spec hm
    exact all_runs h1 h2 h3 ((safe_iff hm).1 hs)
  · rintro ⟨p, hp, hr⟩
    exact safe_of_stuck hm (fun X _ hX _ hn i hi => runs_stuck (may_iff.1 hm).2.2 hp hr hX (Int.le_refl f) hn i hi)
theorem runs_more : ∀ {p : List Mem} {f f' : Int}, f ≤ f' → Runs f p → Runs f' p
  | [], _, _, _, _ => trivial
  | m :: t, f, f', h, hr => ⟨by have := hr.1; omega, runs_more (by omega) hr.2⟩
def Sorted (p : List Mem) : Prop := ∀ x y, x < y → y < p.length → need (p.getD x m0) ≤ need (p.getD y m0)
/-- If some order runs, the one sorted by need does. -/
theorem runs_sorted {l p p' : List Mem} {f : Int} (ha : l.all ok = true) (hp : p.Perm l) (hs : Sorted p) (hp' : p'.Perm l) (hr : Runs f p') : Runs f p := by
  obtain ⟨q, hq, e⟩ := perm_idx hp
  have hql : ∀ x ∈ q, x < l.length := fun x hx => by simpa using hq.mem_iff.1 hx
  have hnd : q.Nodup := hq.nodup_iff.2 List.nodup_range
  rw [← e]
  refine (turn_runs hql).1 (fun j hj => ?_)
  have hget : ∀ i, i < q.length → p.getD i m0 = l.getD (q.getD i 0) m0 := fun i hi => by
    rw [← e]
    simp [List.getD, hi]
  have hmem : q.getD j 0 ∈ q := by simp [List.getD, hj]
  refine ⟨hql _ hmem, ?_⟩
  apply Classical.byContradiction
  intro hlt
  have hX : ∀ x ∈ q.take j, x < l.length := fun x hx => hql x (List.mem_of_mem_take hx)
  have hin := runs_stuck ha hp' hr hX (Int.le_refl f) (next_none (fun y hy => by
    have hyq : y ∈ q := hq.mem_iff.2 (by simpa using hy)
    obtain ⟨i, hi, rfl⟩ := List.mem_iff_getElem.1 hyq
    rcases Nat.lt_or_ge i j with h1 | h1
    · left
      rw [List.mem_take_iff_getElem]
      exact ⟨i, by omega, rfl⟩
    · right
      have e2 : q.getD i 0 = q[i] := by simp [List.getD, hi]
      rcases Nat.lt_or_ge j i with h2 | h2
      · have := hs j i h2 (by rw [← e]; simpa using hi)
        rw [hget j hj, hget i hi, e2] at this
        omega
      · obtain rfl : i = j := by omega
        rw [← e2]
        omega)) (q.getD j 0) (hql _ hmem)
  rw [List.mem_take_iff_getElem] at hin
  obtain ⟨i, hi, hii⟩ := hin
  have e2 : q.getD j 0 = q[j] := by simp [List.getD, hj]
  rw [e2] at hii
  have := (List.nodup_iff_pairwise_ne.1 hnd)
  rw [List.pairwise_iff_getElem] at this
  exact this i j (by omega) hj (by omega) hii
/-- How many are lacking, member by member. -/
def roomGo : Int → Int → List Mem → Int
  | lack, _, [] => lack
  | lack, have', m :: t => roomGo (max lack (need m - have')) (have' + m.2.2.1) t
theorem roomGo_le {m : Int} : ∀ {p : List Mem} {lack h : Int}, roomGo lack h p ≤ m ↔ lack ≤ m ∧ Runs (h + m) p
  | [], lack, h => by simp [roomGo, Runs]
  | x :: t, lack, h => by
    unfold roomGo Runs
    rw [roomGo_le (p := t)]
    rw [show h + x.2.2.1 + m = h + m + x.2.2.1 by omega]
    constructor
    · rintro ⟨h1, h2⟩; exact ⟨by omega, by omega, h2⟩
    · rintro ⟨h1, h2, h3⟩; exact ⟨by omega, h3⟩
/-- So many are lacking. -/
def IsRoom (f : Int) (l : List Mem) (R : Int) : Prop :=
  (may f l = false → R = -1) ∧ (may f l = true → 0 ≤ R ∧ ∀ m, 0 ≤ m → (R ≤ m ↔ ∃ p : List Mem, p.Perm l ∧ Runs (f + m) p))
theorem IsRoom.unique {f : Int} {l : List Mem} {R R' : Int} (h : IsRoom f l R) (h' : IsRoom f l R') : R = R' := by
  cases hm : may f l
  · rw [h.1 hm, h'.1 hm]
  · obtain ⟨a, b⟩ := h.2 hm
    obtain ⟨a', b'⟩ := h'.2 hm
    have h1 := (b R' a').2 ((b' R' a').1 (Int.le_refl _))
    have h2 := (b' R a).2 ((b R a).1 (Int.le_refl _))
    omega
theorem IsRoom.of_sorted {f : Int} {l p : List Mem} (hm : may f l = true) (hp : p.Perm l) (hs : Sorted p) : IsRoom f l (roomGo 0 f p) := by
  refine ⟨fun h => absurd (hm.symm.trans h) (by decide), fun _ => ⟨?_, fun m h0 => ?_⟩⟩
  · have := (roomGo_le (p := p) (lack := 0) (h := f) (m := roomGo 0 f p)).1 (Int.le_refl _)
    exact this.1
  · rw [roomGo_le]
    constructor
    · rintro ⟨_, h⟩; exact ⟨p, hp, h⟩
    · rintro ⟨p', hp', hr⟩; exact ⟨h0, runs_sorted (may_iff.1 hm).2.2 hp hs hp' hr⟩
theorem IsRoom.zero {f : Int} {l : List Mem} {R : Int} (h : IsRoom f l R) (hs : safe f l = true) : R = 0 := by
  have hm := safe_may hs
  obtain ⟨a, b⟩ := h.2 hm
  have := (b 0 (Int.le_refl 0)).2 (by rw [Int.add_zero]; exact (safe_runs hm).1 hs)
  omega
/-- With more free ones all may end that might ahead. -/
theorem safe_more {f f' : Int} {l : List Mem} (hs : safe f l = true) (h : f ≤ f') (h' : f' ≤ 1048576) : safe f' l = true := by
  have hm := safe_may hs
  obtain ⟨f0, f1, fa⟩ := may_iff.1 hm
  obtain ⟨p, hp, hr⟩ := (safe_runs hm).1 hs
  exact (safe_runs (may_iff.2 ⟨by omega, h', fa⟩)).2 ⟨p, hp, runs_more h hr⟩
theorem getD_setM {l : List Mem} {j : Nat} {m : Mem} (hj : j < l.length) (i : Nat) : (l.set j m).getD i m0 = if i = j then m else l.getD i m0 := by
  simp only [List.getD, List.getElem?_set]
  by_cases e : i = j
  · subst e; simp [hj]
  · rw [if_neg (fun h => e h.symm), if_neg e]
/-- When one gives back what it holds, all may end that might ahead. -/
theorem safe_back {f : Int} {l : List Mem} {k : Nat} (hs : safe f l = true) (hk : k < l.length) (hb : f + (l.getD k m0).2.2.1 ≤ 1048576) :
    safe (f + (l.getD k m0).2.2.1) (l.set k ((l.getD k m0).1, (l.getD k m0).2.1, 0, (l.getD k m0).2.2.2)) = true := by
  have hm := safe_may hs
  obtain ⟨f0, f1, fa⟩ := may_iff.1 hm
  have hok := ok_get fa hk
  have hr := (PA.right_iff _ _ _).1 hok
  have hlen : (l.set k ((l.getD k m0).1, (l.getD k m0).2.1, 0, (l.getD k m0).2.2.2)).length = l.length := by simp
  have hok' : ok ((l.getD k m0).1, (l.getD k m0).2.1, 0, (l.getD k m0).2.2.2) = true := (PA.right_iff _ _ _).2 (by dsimp only; omega)
  have hn1 : need (l.getD k m0) = (l.getD k m0).2.1 - (l.getD k m0).2.2.1 := by
    show PA.need _ _ _ = _
    unfold PA.need
    rw [if_pos (show PA.right _ _ _ = true from hok)]
  have hn2 : need ((l.getD k m0).1, (l.getD k m0).2.1, 0, (l.getD k m0).2.2.2) = (l.getD k m0).2.1 := by
    show PA.need _ _ _ = _
    unfold PA.need
    rw [if_pos (show PA.right _ _ _ = true from hok')]
    dsimp only; omega
  have hall : (l.set k ((l.getD k m0).1, (l.getD k m0).2.1, 0, (l.getD k m0).2.2.2)).all ok = true := all_of (fun i hi => by
    rw [getD_setM hk]
    split
    · exact hok'
    · exact ok_get fa (by rwa [hlen] at hi))
  have hm' : may (f + (l.getD k m0).2.2.1) (l.set k ((l.getD k m0).1, (l.getD k m0).2.1, 0, (l.getD k m0).2.2.2)) = true := may_iff.2 ⟨by omega, hb, hall⟩
  have hheld : ∀ X : List Nat, k ∉ X → sumH (l.set k ((l.getD k m0).1, (l.getD k m0).2.1, 0, (l.getD k m0).2.2.2)) X = sumH l X := by
    intro X
    induction X with
    | nil => intro _; rfl
    | cons a t ih =>
      intro h
      have h1 : a ≠ k := fun e => h (e ▸ List.mem_cons_self)
      rw [sum_cons, sum_cons, ih (fun e => h (List.mem_cons_of_mem _ e))]
      unfold held
      rw [getD_setM hk, if_neg h1]
  have hin : ∀ X : List Nat, X.Nodup → k ∈ X → sumH (l.set k ((l.getD k m0).1, (l.getD k m0).2.1, 0, (l.getD k m0).2.2.2)) X + (l.getD k m0).2.2.1 = sumH l X := fun X hX h => by
    have hp := List.perm_cons_erase h
    rw [sumH_perm hp, sumH_perm (l := l) hp, sum_cons, sum_cons, hheld _ (fun e => ((hX.mem_erase_iff).1 e).1 rfl)]
    unfold held
    rw [getD_setM hk, if_pos rfl]
    dsimp only
    omega
  refine safe_of_stuck hm' (fun X hX hXl _ hne i hi => ?_)
  have hXl' : ∀ x ∈ X, x < l.length := fun x hx => by have := hXl x hx; rwa [hlen] at this
  rw [hlen] at hi
  by_cases hkX : k ∈ X
  · have := hin X hX hkX
    rw [show f + (l.getD k m0).2.2.1 + sumH (l.set k ((l.getD k m0).1, (l.getD k m0).2.1, 0, (l.getD k m0).2.2.2)) X = f + sumH l X by omega] at hne
    refine safe_stuck hm hs hXl' (Int.le_refl f) (next_none (fun y hy => ?_)) i hi
    rcases next_none' hne y (by rw [hlen]; exact hy) with h | h
    · exact .inl h
    · by_cases e : y = k
      · exact .inl (e ▸ hkX)
      · rw [getD_setM hk, if_neg e] at h
        exact .inr h
  · rw [hheld X hkX] at hne
    have := safe_stuck hm hs hXl' (Int.le_refl f) (next_none (fun y hy => by
      rcases next_none' hne y (by rw [hlen]; exact hy) with h | h
      · exact .inl h
      · by_cases e : y = k
        · rw [e, getD_setM hk, if_pos rfl, hn2] at h
          right
          rw [e, hn1]
          omega
        · rw [getD_setM hk, if_neg e] at h
          right
          omega)) k hk
    exact absurd this hkX
/-- Whether places are an order in which all may end. -/
def right (l : List Mem) : Int → List Nat → List Int → Bool
  | _, _, [] => true
  | f, done, i :: t => if i < 0 ∨ (l.length : Int) ≤ i then false else if done.contains i.toNat = true then false else if f < need (l.getD i.toNat m0) then false
      else right l (f + (l.getD i.toNat m0).2.2.1) (done ++ [i.toNat]) t
def isRight (o : List Int) (f : Int) (l : List Mem) : Bool := may f l && decide (o.length = l.length) && right l f [] o
theorem right_turn {l : List Mem} : ∀ {d : List Nat} {f : Int} {done : List Nat}, (done ++ d).Nodup → (∀ x ∈ d, x < l.length) → Turn l f d → right l f done (ints d) = true
  | [], _, _, _, _, _ => rfl
  | a :: t, f, done, hn, hl, ht => by
    obtain ⟨⟨h1, h2⟩, h3⟩ := turn_cons.1 ht
    have e : ints (a :: t) = (a : Int) :: ints t := rfl
    rw [e]
    unfold right
    have e2 : ((a : Int)).toNat = a := by omega
    have hnot : a ∉ done := fun h => by
      rw [List.nodup_append] at hn
      exact hn.2.2 a h a List.mem_cons_self rfl
    rw [if_neg (by omega), e2, if_neg (by simpa using hnot), if_neg (by omega)]
    refine right_turn (d := t) (by simpa [List.append_assoc] using hn) (fun x hx => hl x (List.mem_cons_of_mem _ hx)) h3
theorem order_right {f : Int} {l : List Mem} (hs : safe f l = true) : isRight (ints (order f l).1) f l = true := by
  have hm := safe_may hs
  obtain ⟨h1, h2, h3, _⟩ := takenAll_spec hm
  have hl := (safe_iff hm).1 hs
  have e : order f l = (if may f l = false then ([], false) else if (takenAll f l).length < l.length then ([], false) else (takenAll f l, true)) := rfl
  rw [e, if_neg (by rw [hm]; simp), if_neg (by omega)]
  unfold isRight
  rw [hm, ints_len, right_turn (by simpa using h1) h2 h3]
  simp [hl]
end PO
end Go.Proofs.Ythmjbfocpdiikaa
