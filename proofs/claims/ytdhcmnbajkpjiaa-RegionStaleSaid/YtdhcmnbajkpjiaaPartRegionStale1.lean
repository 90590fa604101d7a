/- Part 1 of the proof of RegionStale: lemmas, each with its conditions ahead of it. -/
import Derived.Test.YtdhcmnbajkpjiaaRows
import Derived.WalkKit
import Derived.ProofKit
import Derived.OpenShut
import Derived.ShutString
import Derived.ChangeOld
import Derived.Below
import Derived.Deep.Slices
import Derived.Lib.Hide
import Derived.Lib.SmallJoins
import Derived.Test.YtdhcmnbajkpjiaaProg
import Derived.BigQuiet
import Derived.Deep.QuietTactic
import Derived.Outline
import Derived.OwnWalk
import Derived.Maps.AppendAt
import Derived.Deep.AppendLies
import Derived.Deep.LoopGhost
import Derived.Laws.Rows
import Derived.Deep.OwnRows
/-
  The frame of a law's proof, over any program: from a walk that returns true and leaves all old memory as it was, to the row's step. And openers for arguments.
-/
namespace Go.Proofs.Ytdhcmnbajkpjiaa.Fr
open Go.ChangeShapes Go.WideShapes Go.ChangeAt Go.RowKit Go.Deep
open Go.ChangeMaps (open_string shut_string)

section
variable {H : Type} {enc : TypeId × Value → H} {P : Program}

theorem trodAll_below (hl : laidOutB P = true) {W W' : World} (hb : Below W.heap.size W W') :
    ∀ (ts : List TypeId), (∀ t ∈ ts, P.readableRec t = true ∧ t < P.types.size) → ∀ (vs : List Value) (ds : List (DataW H)) (ps : List MemPlace),
      DataW.TrodAll enc P W 0 (fun _ => true) true ts vs ds ps →
      DataW.TrodAll enc P W' 0 (fun b => decide (b < W.heap.size)) true ts vs ds ps
  | [], _, vs, ds, ps, h => by
    obtain ⟨rfl, rfl, rfl⟩ := trodAll_nil h
    exact trodAll_mk0
  | t :: ts, hr, vs, ds, ps, h => by
    obtain ⟨v, vs', d, ds', p, q, rfl, rfl, rfl, h0, h1⟩ := trodAll_cons h
    have hlt : ∀ x ∈ p, x.block < W.heap.size := by obtain ⟨m, hm⟩ := h0; exact DataW.trod_lt m _ _ _ hm
    exact trodAll_cons_mk (Below.trod hl (hr t (by simp)).1 (hr t (by simp)).2 h0 hb hlt)
      (trodAll_below hl hb ts (fun t' ht' => hr t' (by simp [ht'])) vs' ds' q h1)

theorem trodAll_len {W : World} {base : Nat} {sp : Nat → Bool} {hd : Bool} : ∀ (ts : List TypeId) (vs : List Value) (ds : List (DataW H)) (ps : List MemPlace),
    DataW.TrodAll enc P W base sp hd ts vs ds ps → ds.length = ts.length
  | [], vs, ds, ps, h => by
    obtain ⟨_, rfl, _⟩ := trodAll_nil h
    rfl
  | t :: ts, vs, ds, ps, h => by
    obtain ⟨v, vs', d, ds', p, q, rfl, rfl, rfl, h0, h1⟩ := trodAll_cons h
    simp [trodAll_len ts vs' ds' q h1]

/-- THE ROW's STEP OF A LAW. -/
theorem lifted {C : Checked} {os : Os} {f : FuncId} {fn : Func} {s : ChangeSpec} (bt : TypeId) (n : Nat)
    (own : ownKnob C.prog.godebug = none) (started : os.Started) (noInit : C.prog.inits.idxOf? f = none) (hfn : C.prog.funcs[f]? = some fn)
    (witness : ∃ (w : World) (tape : Tape) (i : Input), w.os = os ∧ (w.forCall tape i).Shaped C.prog ∧ i.vars = [] ∧ Input.okWide C.prog (w.forCall tape i) .any w.heap.size f i ∧
      s.pre6 enc C.prog fn [] false (w.forCall tape i).memory i.args ∧ ({} : Assume).holds C.prog (lone (Frame.enter C.prog f i.args .normal) [] (w.forCall tape i)))
    (hs : s.vars = []) (hn : fn.params.size = n)
    (hfnc : ∀ ds : List (DataW H), ds.length = n → (s.fn H ds).results = [.lit (.bool true)] ∧ (s.fn H ds).args = ds ∧ (s.fn H ds).vars = [])
    (hres : fn.resultTypes = #[bt]) (hb : C.prog.underlying bt = some .bool)
    (hl : laidOutB C.prog = true) (hp : fn.params.toList.all (fun t => C.prog.readableRec t && decide (t < C.prog.types.size)) = true)
    (walk : ∀ (W : World) (args : Array Value) (ds : List (DataW H)) (ps : List MemPlace) (base : Nat),
      (∀ (j : Nat) t v, fn.params[j]? = some t → args[j]? = some v → Value.okWide C.prog W .any base t v) →
      DataW.TrodAll enc C.prog W 0 (fun _ => true) true fn.params.toList args.toList ds ps →
      Calls C.prog f args W fun e W' => e = .returned (.bool true) ∧ Below W.heap.size W W') :
    ReturnsInHanded {} C os f .any (s.pre6 enc C.prog fn [] false) (s.post enc C.prog fn false true false false) := by
  refine returnsInHanded_of_change own started noInit hfn witness ?_
  intro W base args ds gs before hval hW _ _
  have hW' := hW
  obtain ⟨p, q, hA, hV, rfl, hfz, hnd⟩ := hW
  rw [hs] at hV
  obtain ⟨rfl, rfl⟩ := trodVars_none hV
  have hlen : ds.length = n := by rw [trodAll_len _ _ _ _ hA, ← hn]; simp
  have hp' : ∀ t ∈ fn.params.toList, C.prog.readableRec t = true ∧ t < C.prog.types.size := by
    intro t ht
    have := List.all_eq_true.1 hp t ht
    simpa using this
  obtain ⟨e1, e2, e3⟩ := hfnc (ds ++ []) (by simpa using hlen)
  refine (walk W args ds p base hval hA).mono fun e W' ⟨he, bel⟩ => ?_
  subst he
  refine ⟨_, rfl, ds, [], p ++ [], [], p, [], hW', ?_, ?_, ?_, bel.frame _, fun h => by cases h⟩
  · rw [e1, hres]
    exact trodAll_mk1 (shut_bool hb _)
  · rw [e2, List.append_nil]
    exact trodAll_below hl bel _ hp' _ _ _ hA
  · rw [hs, e3]
    rfl
end

/-! ### openers -/
theorem list_2 {l : List Int} (h : l.length = 2) : ∃ x0 x1 : Int, l = [x0, x1] := by
  match l, h with
  | [x0, x1], _ => exact ⟨x0, x1, rfl⟩
theorem list_3 {l : List Int} (h : l.length = 3) : ∃ x0 x1 x2 : Int, l = [x0, x1, x2] := by
  match l, h with
  | [x0, x1, x2], _ => exact ⟨x0, x1, x2, rfl⟩
theorem list_4 {l : List Int} (h : l.length = 4) : ∃ x0 x1 x2 x3 : Int, l = [x0, x1, x2, x3] := by
  match l, h with
  | [x0, x1, x2, x3], _ => exact ⟨x0, x1, x2, x3, rfl⟩
theorem list_5 {l : List Int} (h : l.length = 5) : ∃ x0 x1 x2 x3 x4 : Int, l = [x0, x1, x2, x3, x4] := by
  match l, h with
  | [x0, x1, x2, x3, x4], _ => exact ⟨x0, x1, x2, x3, x4, rfl⟩
theorem list_6 {l : List Int} (h : l.length = 6) : ∃ x0 x1 x2 x3 x4 x5 : Int, l = [x0, x1, x2, x3, x4, x5] := by
  match l, h with
  | [x0, x1, x2, x3, x4, x5], _ => exact ⟨x0, x1, x2, x3, x4, x5, rfl⟩
section
variable {P : Program} {W : World} {base : Nat}

/-- A struct or an array whose cells are all integers of one kind, by value: out of the form alone. -/
theorem flat_ints {t n it : Nat} {k : IntKind} {v : Value} (hst : (∃ fs, P.underlying t = some (.struct fs)) ∨ ∃ m e, P.underlying t = some (.array m e))
    (hct : P.cellTypes P.depth t = some (List.replicate n it)) (hc : P.cellsOf t = n) (hit : P.underlying it = some (.int k)) (h : Value.okWide P W .any base t v) :
    ∃ xs : List Int, xs.length = n ∧ v = .agg (xs.map (Value.int k)).toArray ∧ ∀ x ∈ xs, k.min ≤ x ∧ x ≤ k.max := by
  have h' : ∃ cs, v = .agg cs ∧ cs.size = P.cellsOf t ∧ Row.okWide P W .any base t cs := by
    rcases hst with ⟨fs, hu⟩ | ⟨m, e, hu⟩ <;> simpa [Value.okWide, hu] using h
  obtain ⟨cs, rfl, hsz, ts, hts, _, hcell⟩ := h'
  rw [hct] at hts
  obtain rfl : List.replicate n it = ts := Option.some.inj hts
  have key : ∀ (i : Nat) (u : Value), cs[i]? = some u → ∃ x : Int, u = Value.int k x ∧ k.min ≤ x ∧ x ≤ k.max := by
    intro i u hu
    obtain ⟨t', ht', hok⟩ := hcell i u hu
    have e : t' = it := by
      have := List.mem_of_getElem? ht'
      exact List.eq_of_mem_replicate this
    subst e
    unfold Cell.okWide at hok
    rw [hit] at hok
    unfold Cell.ok at hok
    rw [hit] at hok
    cases u <;> simp_all [IntKind.has]
  refine ⟨cs.toList.map intOf, by simp [hsz, hc], ?_, ?_⟩
  · congr 1
    apply Array.ext_getElem?
    intro i
    rcases hu : cs[i]? with _ | u
    · simp [hu]
    · obtain ⟨x, rfl, _⟩ := key i u hu
      simp [hu, intOf]
  · intro x hx
    obtain ⟨u, hu, rfl⟩ := List.mem_map.1 hx
    obtain ⟨i, hi, e⟩ := List.mem_iff_getElem.1 hu
    obtain ⟨y, rfl, hy⟩ := key i u (by rw [← e]; simp)
    exact hy
end
end Go.Proofs.Ytdhcmnbajkpjiaa.Fr
/-
  Chain, as functions and rows: plain Lean, no program.
-/
namespace Go.Proofs.Ytdhcmnbajkpjiaa
set_option linter.unusedVariables false

/-- A chain's state: of each node what is ahead, behind, and its list; of each list its last and first node, and how many. -/
structure CS where
  bk : Nat → Int
  nx : Nat → Int
  ls : Nat → Int
  fb : Nat → Int
  fn : Nat → Int
  fl : Nat → Int

def upd (f : Nat → Int) (x : Nat) (v : Int) : Nat → Int := fun i => if i = x then v else f i
theorem upd_same (f : Nat → Int) (x : Nat) (v : Int) : upd f x v x = v := by simp [upd]
theorem upd_other {f : Nat → Int} {x i : Nat} {v : Int} (h : i ≠ x) : upd f x v i = f i := by simp [upd, h]

/-- A node is put behind the list's last one. -/
def CS.add (S : CS) (i x : Nat) : CS where
  bk := upd S.bk x (S.fb i)
  nx := if 0 ≤ S.fb i then upd (upd S.nx x (-1)) (S.fb i).toNat x else upd S.nx x (-1)
  ls := upd S.ls x i
  fb := upd S.fb i x
  fn := if 0 ≤ S.fb i then S.fn else upd S.fn i x
  fl := upd S.fl i (S.fl i + 1)

/-- A node is taken out of its list. -/
def CS.drop (S : CS) (x : Nat) : CS where
  bk := upd (if 0 ≤ S.nx x then upd S.bk (S.nx x).toNat (S.bk x) else S.bk) x (-1)
  nx := upd (if 0 ≤ S.bk x then upd S.nx (S.bk x).toNat (S.nx x) else S.nx) x (-1)
  ls := upd S.ls x (-1)
  fb := if 0 ≤ S.nx x then S.fb else upd S.fb (S.ls x).toNat (S.bk x)
  fn := if 0 ≤ S.bk x then S.fn else upd S.fn (S.ls x).toNat (S.nx x)
  fl := upd S.fl (S.ls x).toNat (S.fl (S.ls x).toNat - 1)

namespace PC

def lastD (a : List Nat) : Int := match a.getLast? with | some x => x | none => -1
def headD (a : List Nat) : Int := match a with | x :: _ => x | [] => -1
def updR (R : Nat → List Nat) (i : Nat) (r : List Nat) : Nat → List Nat := fun j => if j = i then r else R j
theorem updR_same (R : Nat → List Nat) (i : Nat) (r : List Nat) : updR R i r i = r := by simp [updR]
theorem updR_other {R : Nat → List Nat} {i j : Nat} {r : List Nat} (h : j ≠ i) : updR R i r j = R j := by simp [updR, h]

@[simp] theorem lastD_nil : lastD [] = -1 := rfl
@[simp] theorem lastD_snoc (a : List Nat) (x : Nat) : lastD (a ++ [x]) = x := by simp [lastD]
@[simp] theorem headD_nil : headD [] = -1 := rfl
@[simp] theorem headD_cons (x : Nat) (a : List Nat) : headD (x :: a) = x := rfl
theorem headD_append {a b : List Nat} (h : a ≠ []) : headD (a ++ b) = headD a := by
  cases a with
  | nil => exact absurd rfl h
  | cons x a => rfl
theorem lastD_append {a b : List Nat} (h : b ≠ []) : lastD (a ++ b) = lastD b := by
  rcases List.eq_nil_or_concat b with e | ⟨c, y, e⟩
  · exact absurd e h
  · rw [e, List.concat_eq_append, ← List.append_assoc, lastD_snoc, lastD_snoc]
theorem lastD_cons (a : List Nat) (x : Nat) (b : List Nat) : lastD (a ++ x :: b) = lastD (x :: b) := lastD_append (by simp)
theorem lastD_nat {a : List Nat} (h : a ≠ []) : ∃ y : Nat, lastD a = y ∧ y ∈ a := by
  rcases List.eq_nil_or_concat a with e | ⟨c, y, e⟩
  · exact absurd e h
  · exact ⟨y, by rw [e, List.concat_eq_append, lastD_snoc], by simp [e]⟩
theorem headD_nat {a : List Nat} (h : a ≠ []) : ∃ y : Nat, headD a = y ∧ y ∈ a := by
  cases a with
  | nil => exact absurd rfl h
  | cons x a => exact ⟨x, rfl, by simp⟩
theorem lastD_cases (a : List Nat) : (a = [] ∧ lastD a = -1) ∨ ∃ c y, a = c ++ [y] ∧ lastD a = (y : Nat) := by
  rcases List.eq_nil_or_concat a with e | ⟨c, y, e⟩
  · exact Or.inl ⟨e, by rw [e]; rfl⟩
  · exact Or.inr ⟨c, y, by rw [e, List.concat_eq_append], by rw [e, List.concat_eq_append, lastD_snoc]⟩
theorem headD_cases (a : List Nat) : (a = [] ∧ headD a = -1) ∨ ∃ c y, a = y :: c ∧ headD a = (y : Nat) := by
  cases a with
  | nil => exact Or.inl ⟨rfl, rfl⟩
  | cons x a => exact Or.inr ⟨a, x, rfl, rfl⟩

/-- What a chain's state says of its rows. -/
structure Inv (n l : Nat) (S : CS) (R : Nat → List Nat) : Prop where
  lt : ∀ i, i < l → ∀ x ∈ R i, x < n
  nd : ∀ i, i < l → (R i).Nodup
  fl : ∀ i, i < l → S.fl i = (R i).length
  fn : ∀ i, i < l → S.fn i = headD (R i)
  fb : ∀ i, i < l → S.fb i = lastD (R i)
  ls : ∀ i, i < l → ∀ x ∈ R i, S.ls x = i
  bk : ∀ i, i < l → ∀ x a b, R i = a ++ x :: b → S.bk x = lastD a
  nx : ∀ i, i < l → ∀ x a b, R i = a ++ x :: b → S.nx x = headD b
  no : ∀ x, x < n → (∀ i, i < l → x ∉ R i) → S.ls x = -1 ∧ S.bk x = -1 ∧ S.nx x = -1

theorem length_le : ∀ (m : Nat) (r : List Nat), r.Nodup → (∀ x ∈ r, x < m) → r.length ≤ m
  | 0, r, _, h => by
    cases r with
    | nil => simp
    | cons x r => exact absurd (h x (by simp)) (by omega)
  | m + 1, r, hd, h => by
    have h1 := length_le m (r.erase m) (hd.erase m) (fun x hx => by
      have hx' := (List.Nodup.mem_erase_iff hd).1 hx
      have := h x hx'.2
      have := hx'.1
      omega)
    have h2 := List.length_erase (a := m) (l := r)
    split at h2 <;> omega

variable {n l : Nat} {S : CS} {R : Nat → List Nat}

theorem Inv.len (h : Inv n l S R) {i : Nat} (hi : i < l) : (R i).length ≤ n := length_le n _ (h.nd i hi) (h.lt i hi)

theorem Inv.node (h : Inv n l S R) {x : Nat} (hx : x < n) : (∃ i, i < l ∧ x ∈ R i ∧ S.ls x = i) ∨ ((∀ i, i < l → x ∉ R i) ∧ S.ls x = -1 ∧ S.bk x = -1 ∧ S.nx x = -1) := by
  by_cases hh : ∃ i, i < l ∧ x ∈ R i
  · obtain ⟨i, hi, hm⟩ := hh
    exact Or.inl ⟨i, hi, hm, h.ls i hi x hm⟩
  · have h' : ∀ i, i < l → x ∉ R i := fun i hi hm => hh ⟨i, hi, hm⟩
    exact Or.inr ⟨h', h.no x hx h'⟩

theorem split_unique {x : Nat} {a b c d : List Nat} (hd : (a ++ x :: b).Nodup) (e : a ++ x :: b = c ++ x :: d) : a = c ∧ b = d := by
  induction a generalizing c with
  | nil =>
    cases c with
    | nil => simpa using e
    | cons y c =>
      simp only [List.nil_append, List.cons_append, List.cons.injEq] at e
      obtain ⟨rfl, rfl⟩ := e
      simp at hd
  | cons z a ih =>
    cases c with
    | nil =>
      simp only [List.nil_append, List.cons_append, List.cons.injEq] at e
      obtain ⟨rfl, rfl⟩ := e
      simp at hd
    | cons y c =>
      simp only [List.cons_append, List.cons.injEq] at e
      obtain ⟨rfl, e⟩ := e
      simp only [List.cons_append, List.nodup_cons] at hd
      obtain ⟨rfl, rfl⟩ := ih hd.2 e
      exact ⟨rfl, rfl⟩

theorem Inv.add (h : Inv n l S R) {i x : Nat} (hi : i < l) (hx : x < n) (hs : S.ls x < 0) : Inv n l (S.add i x) (updR R i (R i ++ [x])) := by
  have hno : ∀ j, j < l → x ∉ R j := fun j hj hm => by have := h.ls j hj x hm; omega
  have hfb := h.fb i hi
  refine ⟨?_, ?_, ?_, ?_, ?_, ?_, ?_, ?_, ?_⟩
  · intro j hj y hy
    by_cases e : j = i
    · subst e
      rw [updR_same] at hy
      rcases List.mem_append.1 hy with hy | hy
      · exact h.lt j hj y hy
      · simp at hy; omega
    · rw [updR_other e] at hy; exact h.lt j hj y hy
  · intro j hj
    by_cases e : j = i
    · subst e
      rw [updR_same, List.nodup_append]
      refine ⟨h.nd j hj, by simp, ?_⟩
      intro a ha b hb e
      simp at hb
      subst hb; subst e
      exact hno j hj ha
    · rw [updR_other e]; exact h.nd j hj
  · intro j hj
    simp only [CS.add]
    by_cases e : j = i
    · subst e
      rw [updR_same, upd_same, h.fl j hj]; simp
    · rw [updR_other e, upd_other e]; exact h.fl j hj
  · intro j hj
    simp only [CS.add]
    by_cases e : j = i
    · subst e
      rw [updR_same]
      rcases lastD_cases (R j) with ⟨e1, e2⟩ | ⟨c, y, e1, e2⟩
      · rw [if_neg (by omega), upd_same, e1]; rfl
      · rw [if_pos (by omega), headD_append (by rw [e1]; simp)]; exact h.fn j hj
    · rw [updR_other e]
      split
      · exact h.fn j hj
      · rw [upd_other e]; exact h.fn j hj
  · intro j hj
    simp only [CS.add]
    by_cases e : j = i
    · subst e
      rw [updR_same, upd_same, lastD_snoc]
    · rw [updR_other e, upd_other e]; exact h.fb j hj
  · intro j hj y hy
    simp only [CS.add]
    by_cases e : j = i
    · subst e
      rw [updR_same] at hy
      by_cases e2 : y = x
      · subst e2; rw [upd_same]
      · rw [upd_other e2]
        exact h.ls j hj y (by rcases List.mem_append.1 hy with hy | hy; exact hy; simp at hy; omega)
    · rw [updR_other e] at hy
      rw [upd_other (by rintro rfl; exact hno j hj hy)]
      exact h.ls j hj y hy
  · intro j hj y a b hr
    simp only [CS.add]
    by_cases e : j = i
    · subst e
      rw [updR_same] at hr
      rcases List.eq_nil_or_concat b with e1 | ⟨b', z, e1⟩
      · subst e1
        obtain ⟨rfl, hr⟩ := List.append_inj' hr rfl
        simp at hr; subst hr
        rw [upd_same, hfb]
      · rw [List.concat_eq_append] at e1
        subst e1
        rw [← List.cons_append, ← List.append_assoc] at hr
        obtain ⟨hr2, hz⟩ := List.append_inj' hr rfl
        rw [upd_other (by rintro rfl; exact hno j hj (by rw [hr2]; simp))]
        exact h.bk j hj y a b' hr2
    · rw [updR_other e] at hr
      rw [upd_other (by rintro rfl; exact hno j hj (by rw [hr]; simp))]
      exact h.bk j hj y a b hr
  · intro j hj y a b hr
    simp only [CS.add]
    by_cases e : j = i
    · subst e
      rw [updR_same] at hr
      rcases List.eq_nil_or_concat b with e1 | ⟨b', z, e1⟩
      · subst e1
        obtain ⟨hr', hr⟩ := List.append_inj' hr rfl
        simp at hr; subst hr
        rcases lastD_cases (R j) with ⟨f1, f2⟩ | ⟨c, u, f1, f2⟩
        · rw [if_neg (by omega), upd_same]; rfl
        · rw [if_pos (by omega), upd_other, upd_same]; · rfl
          rw [hfb, f2, Int.toNat_natCast]
          rintro rfl
          exact hno j hj (by rw [f1]; simp)
      · rw [List.concat_eq_append] at e1
        subst e1
        rw [← List.cons_append, ← List.append_assoc] at hr
        obtain ⟨hr2, hz⟩ := List.append_inj' hr rfl
        have hz' : x = z := by simpa using hz
        subst hz'
        clear hr hz
        have hyx : y ≠ x := by rintro rfl; exact hno j hj (by rw [hr2]; simp)
        rcases lastD_cases (R j) with ⟨f1, f2⟩ | ⟨c, u, f1, f2⟩
        · rw [f1] at hr2; simp at hr2
        · rw [if_pos (by omega), hfb, f2, Int.toNat_natCast]
          by_cases hu : y = u
          · subst hu
            have hd := h.nd j hj
            have e3 : [] = b' := (split_unique (x := y) (a := c) (b := []) (c := a) (d := b') (by rw [← f1]; exact hd) (by rw [← f1]; exact hr2)).2
            subst e3
            rw [upd_same]; rfl
          · rw [upd_other hu, upd_other hyx]
            have hb' : b' ≠ [] := by
              rintro rfl
              rw [f1] at hr2
              obtain ⟨-, e3⟩ := List.append_inj' hr2 rfl
              simp at e3; omega
            rw [headD_append hb']
            exact h.nx j hj y a b' hr2
    · rw [updR_other e] at hr
      have hy : y ∈ R j := by rw [hr]; simp
      have hyx : y ≠ x := by rintro rfl; exact hno j hj hy
      rcases lastD_cases (R i) with ⟨f1, f2⟩ | ⟨c, u, f1, f2⟩
      · rw [if_neg (by omega), upd_other hyx]; exact h.nx j hj y a b hr
      · rw [if_pos (by omega), hfb, f2, Int.toNat_natCast]
        have hu : y ≠ u := by
          rintro rfl
          have h1 := h.ls j hj y hy
          have h2 := h.ls i hi y (by rw [f1]; simp)
          omega
        rw [upd_other hu, upd_other hyx]
        exact h.nx j hj y a b hr
  · intro y hy hn
    have hyx : y ≠ x := by rintro rfl; exact hn i hi (by rw [updR_same]; simp)
    have hn' : ∀ j, j < l → y ∉ R j := by
      intro j hj hm
      refine hn j hj ?_
      by_cases e : j = i
      · subst e; rw [updR_same]; simp [hm]
      · rw [updR_other e]; exact hm
    obtain ⟨g1, g2, g3⟩ := h.no y hy hn'
    simp only [CS.add]
    refine ⟨by rw [upd_other hyx]; exact g1, by rw [upd_other hyx]; exact g2, ?_⟩
    rcases lastD_cases (R i) with ⟨f1, f2⟩ | ⟨c, u, f1, f2⟩
    · rw [if_neg (by omega), upd_other hyx]; exact g3
    · rw [if_pos (by omega), hfb, f2, Int.toNat_natCast, upd_other, upd_other hyx]; · exact g3
      rintro rfl
      exact hn' i hi (by rw [f1]; simp)


theorem Inv.drop (h : Inv n l S R) {i x : Nat} {a b : List Nat} (hi : i < l) (hr : R i = a ++ x :: b) : Inv n l (S.drop x) (updR R i (a ++ b)) := by
  have hm : x ∈ R i := by rw [hr]; simp
  have hx := h.lt i hi x hm
  have hls := h.ls i hi x hm
  have hbk := h.bk i hi x a b hr
  have hnx := h.nx i hi x a b hr
  have hnd := h.nd i hi
  have hfb := h.fb i hi
  have hfn := h.fn i hi
  have hfl := h.fl i hi
  have hnd2 := hnd
  rw [hr] at hnd2
  have hxa : x ∉ a := by intro hh; rw [List.nodup_append] at hnd2; exact hnd2.2.2 x hh x (by simp) rfl
  have hxb : x ∉ b := by rw [List.nodup_append] at hnd2; exact (List.nodup_cons.1 hnd2.2.1).1
  have hab : ∀ y, y ∈ a → y ∉ b := by intro y ha hb; rw [List.nodup_append] at hnd2; exact hnd2.2.2 y ha y (by simp [hb]) rfl
  have hoth : ∀ j, j < l → j ≠ i → ∀ y, y ∈ R j → y ∉ R i := by
    intro j hj e y h1 h2
    have := h.ls j hj y h1
    have := h.ls i hi y h2
    omega
  -- the state's fields at any node but x, and its list but i
  have Fbk : ∀ y, y ≠ x → (b ≠ [] → headD b ≠ y) → (S.drop x).bk y = S.bk y := by
    intro y hy hh
    simp only [CS.drop]
    rw [upd_other hy]
    split
    · rw [hnx]
      rcases headD_cases b with ⟨e1, e2⟩ | ⟨c, u, e1, e2⟩
      · omega
      · rw [e2, Int.toNat_natCast, upd_other]
        intro e; exact hh (by rw [e1]; simp) (by omega)
    · rfl
  have Fnx : ∀ y, y ≠ x → (a ≠ [] → lastD a ≠ y) → (S.drop x).nx y = S.nx y := by
    intro y hy hh
    simp only [CS.drop]
    rw [upd_other hy]
    split
    · rw [hbk]
      rcases lastD_cases a with ⟨e1, e2⟩ | ⟨c, u, e1, e2⟩
      · omega
      · rw [e2, Int.toNat_natCast, upd_other]
        intro e; exact hh (by rw [e1]; simp) (by omega)
    · rfl
  have Fls : ∀ y, y ≠ x → (S.drop x).ls y = S.ls y := by
    intro y hy
    simp only [CS.drop]
    rw [upd_other hy]
  have Ghd : ∀ y, y ∉ b → b ≠ [] → headD b ≠ y := by
    intro y hy hb e
    obtain ⟨u, e2, e3⟩ := headD_nat hb
    have : u = y := by omega
    exact hy (this ▸ e3)
  have Gla : ∀ y, y ∉ a → a ≠ [] → lastD a ≠ y := by
    intro y hy hb e
    obtain ⟨u, e2, e3⟩ := lastD_nat hb
    have : u = y := by omega
    exact hy (this ▸ e3)
  have Hout : ∀ y, y ∉ R i → y ≠ x ∧ y ∉ a ∧ y ∉ b := by
    intro y hy
    refine ⟨fun e => hy (e ▸ hm), fun e => hy (by rw [hr]; simp [e]), fun e => hy (by rw [hr]; simp [e])⟩
  refine ⟨?_, ?_, ?_, ?_, ?_, ?_, ?_, ?_, ?_⟩
  · intro j hj y hy
    by_cases e : j = i
    · subst e
      rw [updR_same] at hy
      refine h.lt j hj y ?_
      rw [hr]
      rcases List.mem_append.1 hy with hy | hy <;> simp [hy]
    · rw [updR_other e] at hy; exact h.lt j hj y hy
  · intro j hj
    by_cases e : j = i
    · subst e
      rw [updR_same]
      rw [List.nodup_append] at hnd2 ⊢
      exact ⟨hnd2.1, (List.nodup_cons.1 hnd2.2.1).2, fun u hu v hv => hnd2.2.2 u hu v (by simp [hv])⟩
    · rw [updR_other e]; exact h.nd j hj
  · intro j hj
    simp only [CS.drop, hls, Int.toNat_natCast]
    by_cases e : j = i
    · subst e
      rw [updR_same, upd_same, hfl, hr]; simp; omega
    · rw [updR_other e, upd_other e]; exact h.fl j hj
  · intro j hj
    simp only [CS.drop, hls, Int.toNat_natCast, hbk, hnx]
    by_cases e : j = i
    · subst e
      rw [updR_same]
      rcases lastD_cases a with ⟨e1, e2⟩ | ⟨c, u, e1, e2⟩
      · rw [if_neg (by omega), upd_same, e1]; rfl
      · rw [if_pos (by omega), hfn, hr, headD_append (by rw [e1]; simp), headD_append (by rw [e1]; simp)]
    · rw [updR_other e]
      split
      · exact h.fn j hj
      · rw [upd_other e]; exact h.fn j hj
  · intro j hj
    simp only [CS.drop, hls, Int.toNat_natCast, hbk, hnx]
    by_cases e : j = i
    · subst e
      rw [updR_same]
      rcases headD_cases b with ⟨e1, e2⟩ | ⟨c, u, e1, e2⟩
      · rw [if_neg (by omega), upd_same, e1]; simp
      · rw [if_pos (by omega), hfb, hr, lastD_cons, e1, lastD_append (by simp), show x :: u :: c = [x] ++ u :: c by rfl, lastD_append (by simp)]
    · rw [updR_other e]
      split
      · exact h.fb j hj
      · rw [upd_other e]; exact h.fb j hj
  · intro j hj y hy
    by_cases e : j = i
    · subst e
      rw [updR_same] at hy
      have hyx : y ≠ x := by
        rintro rfl
        rcases List.mem_append.1 hy with hy | hy
        · exact hxa hy
        · exact hxb hy
      rw [Fls y hyx]
      refine h.ls j hj y ?_
      rw [hr]
      rcases List.mem_append.1 hy with hy | hy <;> simp [hy]
    · rw [updR_other e] at hy
      rw [Fls y (Hout y (hoth j hj e y hy)).1]
      exact h.ls j hj y hy
  · intro j hj y c d hrj
    by_cases e : j = i
    · subst e
      rw [updR_same] at hrj
      rcases List.append_eq_append_iff.1 hrj with ⟨m, e1, e2⟩ | ⟨m, e1, e2⟩
      · -- c = a ++ m, b = m ++ y :: d
        have hyb : y ∈ b := by rw [e2]; simp
        have hyx : y ≠ x := by rintro rfl; exact hxb hyb
        by_cases hm0 : m = []
        · subst hm0
          simp only [List.nil_append] at e2
          simp only [CS.drop]
          rw [upd_other hyx, hnx, e2, headD_cons, if_pos (by omega), Int.toNat_natCast, upd_same, hbk, e1, List.append_nil]
        · obtain ⟨z, m', rfl⟩ : ∃ z m', m = z :: m' := by
            cases m with
            | nil => exact absurd rfl hm0
            | cons z m' => exact ⟨z, m', rfl⟩
          rw [Fbk y hyx]
          · have := h.bk j hj y (a ++ x :: z :: m') d (by rw [hr, e2]; simp)
            rw [this, e1, lastD_cons, lastD_append (by simp), show x :: z :: m' = [x] ++ z :: m' by rfl, lastD_append (by simp)]
          · intro _
            rw [e2]
            simp only [List.cons_append, headD_cons]
            intro e
            have e' : z = y := by omega
            subst e'
            rw [e2] at hnd2
            rw [List.nodup_append] at hnd2
            have h3 := (List.nodup_cons.1 hnd2.2.1).2
            simp at h3
      · -- a = c ++ m, y :: d = m ++ b
        cases m with
        | nil =>
          simp only [List.nil_append] at e2
          simp only [List.append_nil] at e1
          have hyb : y ∈ b := by rw [← e2]; simp
          have hyx : y ≠ x := by rintro rfl; exact hxb hyb
          simp only [CS.drop]
          rw [upd_other hyx, hnx, ← e2, headD_cons, if_pos (by omega), Int.toNat_natCast, upd_same, hbk, e1]
        | cons z m =>
          simp only [List.cons_append, List.cons.injEq] at e2
          obtain ⟨rfl, e2⟩ := e2
          have hya : y ∈ a := by rw [e1]; simp
          rw [Fbk y (by rintro rfl; exact hxa hya) (Ghd y (hab y hya))]
          exact h.bk j hj y c (m ++ x :: b) (by rw [hr, e1]; simp)
    · rw [updR_other e] at hrj
      have hy : y ∈ R j := by rw [hrj]; simp
      obtain ⟨g1, g2, g3⟩ := Hout y (hoth j hj e y hy)
      rw [Fbk y g1 (Ghd y g3)]
      exact h.bk j hj y c d hrj
  · intro j hj y c d hrj
    by_cases e : j = i
    · subst e
      rw [updR_same] at hrj
      rcases List.append_eq_append_iff.1 hrj with ⟨m, e1, e2⟩ | ⟨m, e1, e2⟩
      · have hyb : y ∈ b := by rw [e2]; simp
        have hya : y ∉ a := fun ha => hab y ha hyb
        rw [Fnx y (by rintro rfl; exact hxb hyb) (Gla y hya)]
        exact h.nx j hj y (a ++ x :: m) d (by rw [hr, e2]; simp)
      · cases m with
        | nil =>
          simp only [List.nil_append] at e2
          have hyb : y ∈ b := by rw [← e2]; simp
          have hya : y ∉ a := fun ha => hab y ha hyb
          rw [Fnx y (by rintro rfl; exact hxb hyb) (Gla y hya)]
          exact h.nx j hj y (a ++ [x]) d (by rw [hr, ← e2]; simp)
        | cons z m =>
          simp only [List.cons_append, List.cons.injEq] at e2
          obtain ⟨rfl, e2⟩ := e2
          have hya : y ∈ a := by rw [e1]; simp
          have hyx : y ≠ x := by rintro rfl; exact hxa hya
          by_cases hm0 : m = []
          · subst hm0
            simp only [List.nil_append] at e2
            simp only [CS.drop]
            rw [upd_other hyx, hbk, e1, lastD_snoc, if_pos (by omega), Int.toNat_natCast, upd_same, hnx, e2]
          · rw [Fnx y hyx]
            · have := h.nx j hj y c (m ++ x :: b) (by rw [hr, e1]; simp)
              rw [this, e2, headD_append hm0, headD_append hm0]
            · intro _
              rw [e1, show c ++ y :: m = (c ++ [y]) ++ m by simp, lastD_append hm0]
              intro e
              obtain ⟨u, e3, e4⟩ := lastD_nat hm0
              have e' : u = y := by omega
              subst e'
              have h3 : a.Nodup := by rw [List.nodup_append] at hnd2; exact hnd2.1
              rw [e1, List.nodup_append] at h3
              exact (List.nodup_cons.1 h3.2.1).1 e4
    · rw [updR_other e] at hrj
      have hy : y ∈ R j := by rw [hrj]; simp
      obtain ⟨g1, g2, g3⟩ := Hout y (hoth j hj e y hy)
      rw [Fnx y g1 (Gla y g2)]
      exact h.nx j hj y c d hrj
  · intro y hy hn
    by_cases e : y = x
    · subst e
      simp [CS.drop, upd]
    · have hn' : ∀ j, j < l → y ∉ R j := by
        intro j hj hh
        refine hn j hj ?_
        by_cases e2 : j = i
        · subst e2
          rw [updR_same]
          rw [hr] at hh
          simp only [List.mem_append, List.mem_cons] at hh ⊢
          rcases hh with hh | hh | hh
          · exact Or.inl hh
          · exact absurd hh e
          · exact Or.inr hh
        · rw [updR_other e2]; exact hh
      obtain ⟨g1, g2, g3⟩ := Hout y (hn' i hi)
      obtain ⟨f1, f2, f3⟩ := h.no y hy hn'
      exact ⟨by rw [Fls y e]; exact f1, by rw [Fbk y e (Ghd y g3)]; exact f2, by rw [Fnx y e (Gla y g2)]; exact f3⟩

end PC
end Go.Proofs.Ytdhcmnbajkpjiaa
/-
  Chain, as rows: what is told of any number, and the rows behind a call. Plain Lean.
-/
namespace Go.Proofs.Ytdhcmnbajkpjiaa.PC
set_option linter.unusedVariables false

/-- The first row that has a number. -/
def rowOf (l : Nat) (R : Nat → List Nat) (x : Int) : Option Nat := (List.range l).find? (fun i => decide (0 ≤ x ∧ x.toNat ∈ R i))
def ofV (l : Nat) (R : Nat → List Nat) (x : Int) : Int := match rowOf l R x with | some i => i | none => -1
/-- A number's place in a row. -/
def place (r : List Nat) (x : Int) : Int := if 0 ≤ x ∧ x.toNat ∈ r then (r.idxOf x.toNat : Nat) else -1
def nextV (l : Nat) (R : Nat → List Nat) (x : Int) : Int := match rowOf l R x with | some i => headD ((R i).drop ((R i).idxOf x.toNat + 1)) | none => -1
def backV (l : Nat) (R : Nat → List Nat) (x : Int) : Int := match rowOf l R x with | some i => lastD ((R i).take ((R i).idxOf x.toNat)) | none => -1
def rowV (l : Nat) (R : Nat → List Nat) (i : Int) : List Nat := if 0 ≤ i ∧ i < l then R i.toNat else []
def cut (r : List Nat) (x : Nat) : List Nat := r.take (r.idxOf x) ++ r.drop (r.idxOf x + 1)
def addB (n l : Nat) (R : Nat → List Nat) (i x : Int) : Bool := decide (0 ≤ i ∧ i < l ∧ 0 ≤ x ∧ x < n ∧ ofV l R x < 0)
def addR (n l : Nat) (R : Nat → List Nat) (i x : Int) : Nat → List Nat := if addB n l R i x then updR R i.toNat (R i.toNat ++ [x.toNat]) else R
def dropB (l : Nat) (R : Nat → List Nat) (x : Int) : Bool := decide (0 ≤ ofV l R x)
def dropR (l : Nat) (R : Nat → List Nat) (x : Int) : Nat → List Nat := match rowOf l R x with | some i => updR R i (cut (R i) x.toNat) | none => R

theorem rowOf_some {l : Nat} {R : Nat → List Nat} {x : Int} {i : Nat} (h : rowOf l R x = some i) : i < l ∧ 0 ≤ x ∧ x.toNat ∈ R i ∧ ∀ j, j < i → x.toNat ∉ R j := by
  unfold rowOf at h
  have h1 := List.find?_some h
  have h2 := List.mem_of_find?_eq_some h
  simp only [decide_eq_true_eq] at h1
  simp only [List.mem_range] at h2
  refine ⟨h2, h1.1, h1.2, fun j hj hm => ?_⟩
  rw [List.find?_range_eq_some] at h
  have := h.2.2 j hj
  simp [h1.1, hm] at this
theorem rowOf_none {l : Nat} {R : Nat → List Nat} {x : Int} (h : rowOf l R x = none) : ∀ i, i < l → ¬ (0 ≤ x ∧ x.toNat ∈ R i) := by
  unfold rowOf at h
  rw [List.find?_eq_none] at h
  intro i hi
  have := h i (by simpa using hi)
  simpa using this
theorem rowOf_first {l : Nat} {R : Nat → List Nat} {x : Int} {i : Nat} (hi : i < l) (h0 : 0 ≤ x) (hm : x.toNat ∈ R i) (hf : ∀ j, j < i → x.toNat ∉ R j) : rowOf l R x = some i := by
  unfold rowOf
  rw [List.find?_range_eq_some]
  refine ⟨by simp [h0, hm], by simpa using hi, fun j hj => ?_⟩
  simp [hf j hj]
theorem rowOf_not {l : Nat} {R : Nat → List Nat} {x : Int} (h : ∀ i, i < l → ¬ (0 ≤ x ∧ x.toNat ∈ R i)) : rowOf l R x = none := by
  unfold rowOf
  rw [List.find?_eq_none]
  intro i hi
  simpa using h i (by simpa using hi)

theorem split_idx {r : List Nat} {x : Nat} (h : x ∈ r) : r = r.take (r.idxOf x) ++ x :: r.drop (r.idxOf x + 1) := by
  have hl := List.idxOf_lt_length_iff.2 h
  have h1 := List.drop_eq_getElem_cons hl
  rw [List.getElem_idxOf] at h1
  rw [← h1, List.take_append_drop]

theorem place_of {r : List Nat} {x : Nat} {k : Nat} (hk : k < r.length) (h : r[k] = x) (hf : ∀ j (hj : j < r.length), j < k → r[j] ≠ x) : r.idxOf x = k := by
  have hm : x ∈ r := h ▸ List.getElem_mem hk
  have hl := List.idxOf_lt_length_iff.2 hm
  have h1 : r[r.idxOf x] = x := List.getElem_idxOf hl
  rcases Nat.lt_trichotomy (r.idxOf x) k with hlt | he | hgt
  · exact absurd h1 (hf _ hl hlt)
  · exact he
  · have h2 : r.take k ++ r[k] :: r.drop (k + 1) = r := by rw [← List.drop_eq_getElem_cons hk, List.take_append_drop]
    have h3 : (r.take k ++ r[k] :: r.drop (k + 1)).idxOf x ≤ k := by
      rw [h, List.idxOf_append]
      split
      · have := List.idxOf_lt_length_iff.2 ‹x ∈ r.take k›
        simp at this; omega
      · simp
        omega
    rw [h2] at h3
    omega

variable {n l : Nat} {S : CS} {R : Nat → List Nat}

theorem Inv.one (h : Inv n l S R) {i j : Nat} (hi : i < l) (hj : j < l) {x : Nat} (h1 : x ∈ R i) (h2 : x ∈ R j) : i = j := by
  have := h.ls i hi x h1
  have := h.ls j hj x h2
  omega
theorem Inv.ofV (h : Inv n l S R) {x : Nat} (hx : x < n) : S.ls x = ofV l R x := by
  unfold PC.ofV
  rcases h.node hx with ⟨i, hi, hm, hs⟩ | ⟨hn, hs, _⟩
  · rw [rowOf_first hi (by omega) (by simpa using hm) (fun j hj hj' => by
      have := h.one (j := j) hi (by omega) hm (by simpa using hj'); omega)]
    exact hs
  · rw [rowOf_not (fun i hi hh => hn i hi (by simpa using hh.2))]
    exact hs
theorem Inv.nextV (h : Inv n l S R) {x : Nat} (hx : x < n) : S.nx x = nextV l R x := by
  unfold PC.nextV
  rcases h.node hx with ⟨i, hi, hm, hs⟩ | ⟨hn, hs, _, h3⟩
  · rw [rowOf_first hi (by omega) (by simpa using hm) (fun j hj hj' => by
      have := h.one (j := j) hi (by omega) hm (by simpa using hj'); omega)]
    exact h.nx i hi x _ _ (by simpa using split_idx hm)
  · rw [rowOf_not (fun i hi hh => hn i hi (by simpa using hh.2))]
    exact h3
theorem Inv.backV (h : Inv n l S R) {x : Nat} (hx : x < n) : S.bk x = backV l R x := by
  unfold PC.backV
  rcases h.node hx with ⟨i, hi, hm, hs⟩ | ⟨hn, hs, h2, h3⟩
  · rw [rowOf_first hi (by omega) (by simpa using hm) (fun j hj hj' => by
      have := h.one (j := j) hi (by omega) hm (by simpa using hj'); omega)]
    exact h.bk i hi x _ _ (by simpa using split_idx hm)
  · rw [rowOf_not (fun i hi hh => hn i hi (by simpa using hh.2))]
    exact h2
theorem Inv.far (h : Inv n l S R) {x : Int} (hx : x < 0 ∨ (n : Int) ≤ x) : rowOf l R x = none :=
  rowOf_not fun i hi hh => by have := h.lt i hi _ hh.2; omega
theorem ofV_none {x : Int} (h : rowOf l R x = none) : PC.ofV l R x = -1 := by unfold PC.ofV; rw [h]
theorem nextV_none {x : Int} (h : rowOf l R x = none) : PC.nextV l R x = -1 := by unfold PC.nextV; rw [h]
theorem backV_none {x : Int} (h : rowOf l R x = none) : PC.backV l R x = -1 := by unfold PC.backV; rw [h]
theorem rowV_in {i : Nat} (hi : i < l) : rowV l R i = R i := by unfold rowV; rw [if_pos (by omega)]; simp
theorem rowV_out {i : Int} (hi : i < 0 ∨ (l : Int) ≤ i) : rowV l R i = [] := by unfold rowV; rw [if_neg (by omega)]

theorem Inv.addV (h : Inv n l S R) {i x : Int} (hb : addB n l R i x = true) : ∃ i' x' : Nat, i = i' ∧ x = x' ∧ i' < l ∧ x' < n ∧ S.ls x' < 0 ∧ Inv n l (S.add i' x') (addR n l R i x) := by
  have hb' := hb
  unfold addB at hb'
  simp only [decide_eq_true_eq] at hb'
  obtain ⟨h0, h1, h2, h3, h4⟩ := hb'
  obtain ⟨i', rfl⟩ : ∃ i' : Nat, i = i' := ⟨i.toNat, by omega⟩
  obtain ⟨x', rfl⟩ : ∃ x' : Nat, x = x' := ⟨x.toNat, by omega⟩
  have h5 := h.ofV (x := x') (by omega)
  refine ⟨i', x', rfl, rfl, by omega, by omega, by omega, ?_⟩
  unfold addR
  rw [if_pos hb]
  exact h.add (by omega) (by omega) (by omega)
theorem Inv.dropV (h : Inv n l S R) {x : Int} (hb : dropB l R x = true) : ∃ x' i : Nat, x = x' ∧ x' < n ∧ i < l ∧ S.ls x' = i ∧ x' ∈ R i ∧ Inv n l (S.drop x') (dropR l R x) := by
  unfold dropB PC.ofV at hb
  rcases hr : rowOf l R x with _ | i
  · rw [hr] at hb; simp at hb
  · obtain ⟨h1, h2, h3, h4⟩ := rowOf_some hr
    obtain ⟨x', rfl⟩ : ∃ x' : Nat, x = x' := ⟨x.toNat, by omega⟩
    rw [Int.toNat_natCast] at h3
    have hx := h.lt i h1 x' h3
    refine ⟨x', i, rfl, hx, h1, h.ls i h1 x' h3, h3, ?_⟩
    unfold dropR
    rw [hr]
    simp only [Int.toNat_natCast]
    exact h.drop h1 (split_idx h3)
theorem dropB_ofV {x : Int} : dropB l R x = decide (0 ≤ PC.ofV l R x) := rfl
theorem addR_no {i x : Int} (h : addB n l R i x = false) : addR n l R i x = R := by unfold addR; rw [h]; simp
theorem dropR_no {x : Int} (h : dropB l R x = false) : dropR l R x = R := by
  unfold dropB PC.ofV at h
  unfold dropR
  rcases hr : rowOf l R x with _ | i
  · rfl
  · rw [hr] at h; simp at h

/-- No nodes in any list. -/
def none0 : Nat → List Nat := fun _ => []
def CS.none : CS := ⟨fun _ => -1, fun _ => -1, fun _ => -1, fun _ => -1, fun _ => -1, fun _ => 0⟩
theorem inv_none (n l : Nat) : Inv n l CS.none none0 := by
  refine ⟨?_, ?_, ?_, ?_, ?_, ?_, ?_, ?_, ?_⟩
  all_goals (intros; simp_all [CS.none, none0])
end Go.Proofs.Ytdhcmnbajkpjiaa.PC
/-
  Small lemmas on worlds for the walks: what a call leaves as it was.
-/
namespace Go.Proofs.Ytdhcmnbajkpjiaa
open Go.RowKit

theorem bel_alloc {a w : World} (h : Below a.heap.size a w) (o : Obj) : Below a.heap.size a (w.alloc o) := h.alloc h.size o
theorem bel_drew {a w : World} (h : Below a.heap.size a w) : Below a.heap.size a w.drew := h.drew
theorem bel_drewN {a w : World} (h : Below a.heap.size a w) (n : Nat) : Below a.heap.size a (w.drewN n) := ⟨h.os, h.tape, h.output, h.size, h.block⟩
theorem bel_set {a w : World} (h : Below a.heap.size a w) {p : Addr} (hp : a.heap.size ≤ p.block) (u : Value) : Below a.heap.size a (w.setCell p u) := h.setCell hp u
theorem bel_trans {a w w' : World} (h : Below a.heap.size a w) (k : Below w.heap.size w w') : Below a.heap.size a w' := h.trans (k.mono h.size)
theorem bel_trans' {a w w' : World} {B : Nat} (h : Below a.heap.size a w) (k : Below B w w') (hB : a.heap.size ≤ B) : Below a.heap.size a w' := h.trans (k.mono hB)
/-- What a world behind a call gives the walk: old cells and old marks read as before. -/
theorem bel_cells {W w1 : World} (hb : Below W.heap.size W w1) :
    (∀ b o, b < W.heap.size → w1.cell? ⟨b, o, none⟩ = W.cell? ⟨b, o, none⟩) ∧ (∀ b o, b < W.heap.size → w1.frozen? ⟨b, o, none⟩ = W.frozen? ⟨b, o, none⟩) :=
  ⟨fun b o h => hb.cell (p := ⟨b, o, none⟩) h, fun b o h => hb.frozen (p := ⟨b, o, none⟩) h⟩
/-- The draws outermost, whatever was done behind them. -/
theorem drewN_alloc (w : World) (n : Nat) (o : Obj) : (w.drewN n).alloc o = (w.alloc o).drewN n := rfl
theorem drewN_setCell (w : World) (n : Nat) (a : Addr) (v : Value) : (w.drewN n).setCell a v = (w.setCell a v).drewN n := rfl
theorem results_tmp5 {fn : Func} {t u v x y : Tmp} (h : fn.results = #[.tmp t, .tmp u, .tmp v, .tmp x, .tmp y]) (tmps : Array Value) (P : Program) (w : World) :
    (results fn tmps).run P w = .ok (.tuple #[tmps.getD t undef, tmps.getD u undef, tmps.getD v undef, tmps.getD x undef, tmps.getD y undef]) w := by simp [results, h]
theorem ret_bool {a b : Bool} (h : a = b) : Ending.returned (.bool a) = Ending.returned (.bool b) := by rw [h]
theorem ret_int {k : IntKind} {a b : Int} (h : a = b) : Ending.returned (.int k a) = Ending.returned (.int k b) := by rw [h]
theorem ret_ib {k : IntKind} {a b : Int} {p q : Bool} (h : a = b) (h' : p = q) : Ending.returned (.tuple #[.int k a, .bool p]) = Ending.returned (.tuple #[.int k b, .bool q]) := by rw [h, h']
end Go.Proofs.Ytdhcmnbajkpjiaa
/-
  More small lemmas on worlds for the walks.
-/
namespace Go.Proofs.Ytdhcmnbajkpjiaa
open Go.RowKit

theorem cell_after {W w1 : World} {a : Addr} {v : Value} (k : Below W.heap.size W w1) (hlt : a.block < W.heap.size) (h : W.cell? a = some v) : w1.cell? a = some v := (k.cell hlt).trans h
theorem frozen_after {W w1 : World} {a : Addr} (k : Below W.heap.size W w1) (hlt : a.block < W.heap.size) (h : W.frozen? a = false) : w1.frozen? a = false := (k.frozen hlt).trans h
theorem cell_alloc {W : World} {a : Addr} {v : Value} (o : Obj) (hlt : a.block < W.heap.size) (h : W.cell? a = some v) : (W.alloc o).cell? a = some v := (World.cell?_alloc_lt W o a hlt).trans h
theorem frozen_alloc {W : World} {a : Addr} (o : Obj) (hlt : a.block < W.heap.size) (h : W.frozen? a = false) : (W.alloc o).frozen? a = false :=
  (World.frozen?_alloc_old W o a (by omega)).trans h
end Go.Proofs.Ytdhcmnbajkpjiaa
/-
  More small lemmas on worlds for the walks.
-/
namespace Go.Proofs.Ytdhcmnbajkpjiaa
open Go.RowKit

/-- The world at a region, under a name of its own. -/
theorem region_name {P : Program} {c : Code} {Q : Exit → Act → World → Prop} {a : Act} {w : World} (h : ∀ W, W = w → c.wp P Q a W) : c.wp P Q a w := h w rfl
end Go.Proofs.Ytdhcmnbajkpjiaa
/-
  Chain: what its memory holds, and the contracts of what only reads.
-/
namespace Go.Proofs.Ytdhcmnbajkpjiaa
open Go.RowKit
set_option linter.unusedVariables false

/-- A chain in memory: its block, its nodes' block, its lists' block. -/
structure ChainAt (w : World) (C Nb Lb n l : Nat) (S : CS) : Prop where
  c0 : w.cell? ⟨C, 0, none⟩ = some (.slice (some ⟨Nb, 0, none⟩) n n)
  c1 : w.cell? ⟨C, 1, none⟩ = some (.slice (some ⟨Lb, 0, none⟩) l l)
  n0 : ∀ i, i < n → w.cell? ⟨Nb, i * 3, none⟩ = some (.int .i64 (S.bk i))
  n1 : ∀ i, i < n → w.cell? ⟨Nb, i * 3 + 1, none⟩ = some (.int .i64 (S.nx i))
  n2 : ∀ i, i < n → w.cell? ⟨Nb, i * 3 + 2, none⟩ = some (.int .i64 (S.ls i))
  l0 : ∀ i, i < l → w.cell? ⟨Lb, i * 3, none⟩ = some (.int .i64 (S.fb i))
  l1 : ∀ i, i < l → w.cell? ⟨Lb, i * 3 + 1, none⟩ = some (.int .i64 (S.fn i))
  l2 : ∀ i, i < l → w.cell? ⟨Lb, i * 3 + 2, none⟩ = some (.int .i64 (S.fl i))
  fzn : ∀ j, w.frozen? ⟨Nb, j, none⟩ = false
  fzl : ∀ j, w.frozen? ⟨Lb, j, none⟩ = false
  hC : C < w.heap.size
  hN : Nb < w.heap.size
  hL : Lb < w.heap.size
  aCN : C ≠ Nb
  aCL : C ≠ Lb
  aNL : Nb ≠ Lb
  bn : n ≤ 1048576
  bl : l ≤ 1048576

theorem ChainAt.keep {w w' : World} {C Nb Lb n l : Nat} {S : CS} (h : ChainAt w C Nb Lb n l S) (hb : Below w.heap.size w w') : ChainAt w' C Nb Lb n l S where
  c0 := (hb.cell h.hC).trans h.c0
  c1 := (hb.cell h.hC).trans h.c1
  n0 := fun i hi => (hb.cell h.hN).trans (h.n0 i hi)
  n1 := fun i hi => (hb.cell h.hN).trans (h.n1 i hi)
  n2 := fun i hi => (hb.cell h.hN).trans (h.n2 i hi)
  l0 := fun i hi => (hb.cell h.hL).trans (h.l0 i hi)
  l1 := fun i hi => (hb.cell h.hL).trans (h.l1 i hi)
  l2 := fun i hi => (hb.cell h.hL).trans (h.l2 i hi)
  fzn := fun j => (hb.frozen h.hN).trans (h.fzn j)
  fzl := fun j => (hb.frozen h.hL).trans (h.fzl j)
  hC := by have := hb.size; have := h.hC; omega
  hN := by have := hb.size; have := h.hN; omega
  hL := by have := hb.size; have := h.hL; omega
  aCN := h.aCN
  aCL := h.aCL
  aNL := h.aNL
  bn := h.bn
  bl := h.bl

theorem chain_is_yes (C Nb n : Nat) (x : Nat) (w : World) (c0 : w.cell? ⟨C, 0, none⟩ = some (.slice (some ⟨Nb, 0, none⟩) n n)) (hx : x < n) (hn : n ≤ 1048576) :
    Calls Try.prog 102 #[.pointer (some ⟨C, 0, none⟩), .int .i64 x] w fun e w' => e = .returned (.bool true) ∧ w = w' := by
  have h0 : (0 : Int) ≤ (x : Int) := by omega
  have h1 : (x : Int) < (n : Int) := by omega
  go_enter Try.func102, Try.ntmps102
  go_wp2_with fail
  go_ret
  exact ⟨ret_bool (by simp), rfl⟩

theorem chain_is_no (C Nb n : Nat) (x : Int) (w : World) (c0 : w.cell? ⟨C, 0, none⟩ = some (.slice (some ⟨Nb, 0, none⟩) n n)) (hx : x < 0 ∨ (n : Int) ≤ x) (hn : n ≤ 1048576) :
    Calls Try.prog 102 #[.pointer (some ⟨C, 0, none⟩), .int .i64 x] w fun e w' => e = .returned (.bool false) ∧ w = w' := by
  rcases hx with hx | hx
  · go_enter Try.func102, Try.ntmps102
    go_wp2_with fail
    go_ret
    exact ⟨rfl, rfl⟩
  · have h0 : 0 ≤ x := by omega
    go_enter Try.func102, Try.ntmps102
    go_wp2_with fail
    go_ret
    exact ⟨ret_bool (by simp; omega), rfl⟩

theorem chain_is_nil (x : Int) (w : World) :
    Calls Try.prog 102 #[.pointer none, .int .i64 x] w fun e w' => e = .returned (.bool false) ∧ w = w' := by
  go_enter Try.func102, Try.ntmps102
  go_wp2_with fail
  go_ret
  exact ⟨rfl, rfl⟩
theorem chain_has_yes (C Lb n : Nat) (x : Nat) (w : World) (c1 : w.cell? ⟨C, 1, none⟩ = some (.slice (some ⟨Lb, 0, none⟩) n n)) (hx : x < n) (hn : n ≤ 1048576) :
    Calls Try.prog 101 #[.pointer (some ⟨C, 0, none⟩), .int .i64 x] w fun e w' => e = .returned (.bool true) ∧ w = w' := by
  have h0 : (0 : Int) ≤ (x : Int) := by omega
  have h1 : (x : Int) < (n : Int) := by omega
  go_enter Try.func101, Try.ntmps101
  go_wp2_with fail
  go_ret
  exact ⟨ret_bool (by simp), rfl⟩

theorem chain_has_no (C Lb n : Nat) (x : Int) (w : World) (c1 : w.cell? ⟨C, 1, none⟩ = some (.slice (some ⟨Lb, 0, none⟩) n n)) (hx : x < 0 ∨ (n : Int) ≤ x) (hn : n ≤ 1048576) :
    Calls Try.prog 101 #[.pointer (some ⟨C, 0, none⟩), .int .i64 x] w fun e w' => e = .returned (.bool false) ∧ w = w' := by
  rcases hx with hx | hx
  · go_enter Try.func101, Try.ntmps101
    go_wp2_with fail
    go_ret
    exact ⟨rfl, rfl⟩
  · have h0 : 0 ≤ x := by omega
    go_enter Try.func101, Try.ntmps101
    go_wp2_with fail
    go_ret
    exact ⟨ret_bool (by simp; omega), rfl⟩

theorem chain_has_nil (x : Int) (w : World) :
    Calls Try.prog 101 #[.pointer none, .int .i64 x] w fun e w' => e = .returned (.bool false) ∧ w = w' := by
  go_enter Try.func101, Try.ntmps101
  go_wp2_with fail
  go_ret
  exact ⟨rfl, rfl⟩
end Go.Proofs.Ytdhcmnbajkpjiaa
/-
  Chain: the contracts of what only reads.
-/
namespace Go.Proofs.Ytdhcmnbajkpjiaa
open Go.RowKit
set_option linter.unusedVariables false

theorem chain_Of_yes (C Nb Lb n l : Nat) (S : CS) (x : Nat) (w : World) (h : ChainAt w C Nb Lb n l S) (hx : x < n) :
    Calls Try.prog 23 #[.pointer (some ⟨C, 0, none⟩), .int .i64 x] w fun e w' => e = .returned (.int .i64 (S.ls x)) ∧ w = w' := by
  have c1 := fun W hc => chain_is_yes C Nb n x W hc hx h.bn
  have C1 := Lib.hid c1
  have k0 := h.c0
  have k1 := h.n2 x hx
  have h0 : (0 : Int) ≤ (x : Int) := by omega
  have h1 : (x : Int) < (n : Int) := by omega
  generalize S.ls x = v at *
  clear c1 h
  go_enter Try.func23, Try.ntmps23
  go_wp2_with fail
  refine (C1.out _ k0).mono ?_
  rintro e w1 ⟨rfl, rfl⟩
  go_wp2_with fail
  go_ret
  exact ⟨rfl, rfl⟩
theorem chain_Of_no (C Nb Lb n l : Nat) (S : CS) (x : Int) (w : World) (h : ChainAt w C Nb Lb n l S) (hx : x < 0 ∨ (n : Int) ≤ x) :
    Calls Try.prog 23 #[.pointer (some ⟨C, 0, none⟩), .int .i64 x] w fun e w' => e = .returned (.int .i64 (-1)) ∧ w = w' := by
  have c1 := fun W hc => chain_is_no C Nb n x W hc hx h.bn
  have C1 := Lib.hid c1
  have k0 := h.c0
  clear c1 h
  go_enter Try.func23, Try.ntmps23
  go_wp2_with fail
  refine (C1.out _ k0).mono ?_
  rintro e w1 ⟨rfl, rfl⟩
  go_wp2_with fail
  go_ret
  exact ⟨rfl, rfl⟩
theorem chain_Of_nil (x : Int) (w : World) :
    Calls Try.prog 23 #[.pointer none, .int .i64 x] w fun e w' => e = .returned (.int .i64 (-1)) ∧ w = w' := by
  go_enter Try.func23, Try.ntmps23
  go_wp2_with fail
  refine (chain_is_nil x _).mono ?_
  rintro e w1 ⟨rfl, rfl⟩
  go_wp2_with fail
  go_ret
  exact ⟨rfl, rfl⟩

theorem chain_Next_yes (C Nb Lb n l : Nat) (S : CS) (x : Nat) (w : World) (h : ChainAt w C Nb Lb n l S) (hx : x < n) :
    Calls Try.prog 30 #[.pointer (some ⟨C, 0, none⟩), .int .i64 x] w fun e w' => e = .returned (.int .i64 (S.nx x)) ∧ w = w' := by
  have c1 := fun W hc => chain_is_yes C Nb n x W hc hx h.bn
  have C1 := Lib.hid c1
  have k0 := h.c0
  have k1 := h.n1 x hx
  have h0 : (0 : Int) ≤ (x : Int) := by omega
  have h1 : (x : Int) < (n : Int) := by omega
  generalize S.nx x = v at *
  clear c1 h
  go_enter Try.func30, Try.ntmps30
  go_wp2_with fail
  refine (C1.out _ k0).mono ?_
  rintro e w1 ⟨rfl, rfl⟩
  go_wp2_with fail
  go_ret
  exact ⟨rfl, rfl⟩
theorem chain_Next_no (C Nb Lb n l : Nat) (S : CS) (x : Int) (w : World) (h : ChainAt w C Nb Lb n l S) (hx : x < 0 ∨ (n : Int) ≤ x) :
    Calls Try.prog 30 #[.pointer (some ⟨C, 0, none⟩), .int .i64 x] w fun e w' => e = .returned (.int .i64 (-1)) ∧ w = w' := by
  have c1 := fun W hc => chain_is_no C Nb n x W hc hx h.bn
  have C1 := Lib.hid c1
  have k0 := h.c0
  clear c1 h
  go_enter Try.func30, Try.ntmps30
  go_wp2_with fail
  refine (C1.out _ k0).mono ?_
  rintro e w1 ⟨rfl, rfl⟩
  go_wp2_with fail
  go_ret
  exact ⟨rfl, rfl⟩
theorem chain_Next_nil (x : Int) (w : World) :
    Calls Try.prog 30 #[.pointer none, .int .i64 x] w fun e w' => e = .returned (.int .i64 (-1)) ∧ w = w' := by
  go_enter Try.func30, Try.ntmps30
  go_wp2_with fail
  refine (chain_is_nil x _).mono ?_
  rintro e w1 ⟨rfl, rfl⟩
  go_wp2_with fail
  go_ret
  exact ⟨rfl, rfl⟩

theorem chain_Back_yes (C Nb Lb n l : Nat) (S : CS) (x : Nat) (w : World) (h : ChainAt w C Nb Lb n l S) (hx : x < n) :
    Calls Try.prog 27 #[.pointer (some ⟨C, 0, none⟩), .int .i64 x] w fun e w' => e = .returned (.int .i64 (S.bk x)) ∧ w = w' := by
  have c1 := fun W hc => chain_is_yes C Nb n x W hc hx h.bn
  have C1 := Lib.hid c1
  have k0 := h.c0
  have k1 := h.n0 x hx
  have h0 : (0 : Int) ≤ (x : Int) := by omega
  have h1 : (x : Int) < (n : Int) := by omega
  generalize S.bk x = v at *
  clear c1 h
  go_enter Try.func27, Try.ntmps27
  go_wp2_with fail
  refine (C1.out _ k0).mono ?_
  rintro e w1 ⟨rfl, rfl⟩
  go_wp2_with fail
  go_ret
  exact ⟨rfl, rfl⟩
theorem chain_Back_no (C Nb Lb n l : Nat) (S : CS) (x : Int) (w : World) (h : ChainAt w C Nb Lb n l S) (hx : x < 0 ∨ (n : Int) ≤ x) :
    Calls Try.prog 27 #[.pointer (some ⟨C, 0, none⟩), .int .i64 x] w fun e w' => e = .returned (.int .i64 (-1)) ∧ w = w' := by
  have c1 := fun W hc => chain_is_no C Nb n x W hc hx h.bn
  have C1 := Lib.hid c1
  have k0 := h.c0
  clear c1 h
  go_enter Try.func27, Try.ntmps27
  go_wp2_with fail
  refine (C1.out _ k0).mono ?_
  rintro e w1 ⟨rfl, rfl⟩
  go_wp2_with fail
  go_ret
  exact ⟨rfl, rfl⟩
theorem chain_Back_nil (x : Int) (w : World) :
    Calls Try.prog 27 #[.pointer none, .int .i64 x] w fun e w' => e = .returned (.int .i64 (-1)) ∧ w = w' := by
  go_enter Try.func27, Try.ntmps27
  go_wp2_with fail
  refine (chain_is_nil x _).mono ?_
  rintro e w1 ⟨rfl, rfl⟩
  go_wp2_with fail
  go_ret
  exact ⟨rfl, rfl⟩

theorem chain_First_yes (C Nb Lb n l : Nat) (S : CS) (x : Nat) (w : World) (h : ChainAt w C Nb Lb n l S) (hx : x < l) :
    Calls Try.prog 29 #[.pointer (some ⟨C, 0, none⟩), .int .i64 x] w fun e w' => e = .returned (.int .i64 (S.fn x)) ∧ w = w' := by
  have c1 := fun W hc => chain_has_yes C Lb l x W hc hx h.bl
  have C1 := Lib.hid c1
  have k0 := h.c1
  have k1 := h.l1 x hx
  have h0 : (0 : Int) ≤ (x : Int) := by omega
  have h1 : (x : Int) < (l : Int) := by omega
  generalize S.fn x = v at *
  clear c1 h
  go_enter Try.func29, Try.ntmps29
  go_wp2_with fail
  refine (C1.out _ k0).mono ?_
  rintro e w1 ⟨rfl, rfl⟩
  go_wp2_with fail
  go_ret
  exact ⟨rfl, rfl⟩
theorem chain_First_no (C Nb Lb n l : Nat) (S : CS) (x : Int) (w : World) (h : ChainAt w C Nb Lb n l S) (hx : x < 0 ∨ (l : Int) ≤ x) :
    Calls Try.prog 29 #[.pointer (some ⟨C, 0, none⟩), .int .i64 x] w fun e w' => e = .returned (.int .i64 (-1)) ∧ w = w' := by
  have c1 := fun W hc => chain_has_no C Lb l x W hc hx h.bl
  have C1 := Lib.hid c1
  have k0 := h.c1
  clear c1 h
  go_enter Try.func29, Try.ntmps29
  go_wp2_with fail
  refine (C1.out _ k0).mono ?_
  rintro e w1 ⟨rfl, rfl⟩
  go_wp2_with fail
  go_ret
  exact ⟨rfl, rfl⟩
theorem chain_First_nil (x : Int) (w : World) :
    Calls Try.prog 29 #[.pointer none, .int .i64 x] w fun e w' => e = .returned (.int .i64 (-1)) ∧ w = w' := by
  go_enter Try.func29, Try.ntmps29
  go_wp2_with fail
  refine (chain_has_nil x _).mono ?_
  rintro e w1 ⟨rfl, rfl⟩
  go_wp2_with fail
  go_ret
  exact ⟨rfl, rfl⟩

theorem chain_Last_yes (C Nb Lb n l : Nat) (S : CS) (x : Nat) (w : World) (h : ChainAt w C Nb Lb n l S) (hx : x < l) :
    Calls Try.prog 22 #[.pointer (some ⟨C, 0, none⟩), .int .i64 x] w fun e w' => e = .returned (.int .i64 (S.fb x)) ∧ w = w' := by
  have c1 := fun W hc => chain_has_yes C Lb l x W hc hx h.bl
  have C1 := Lib.hid c1
  have k0 := h.c1
  have k1 := h.l0 x hx
  have h0 : (0 : Int) ≤ (x : Int) := by omega
  have h1 : (x : Int) < (l : Int) := by omega
  generalize S.fb x = v at *
  clear c1 h
  go_enter Try.func22, Try.ntmps22
  go_wp2_with fail
  refine (C1.out _ k0).mono ?_
  rintro e w1 ⟨rfl, rfl⟩
  go_wp2_with fail
  go_ret
  exact ⟨rfl, rfl⟩
theorem chain_Last_no (C Nb Lb n l : Nat) (S : CS) (x : Int) (w : World) (h : ChainAt w C Nb Lb n l S) (hx : x < 0 ∨ (l : Int) ≤ x) :
    Calls Try.prog 22 #[.pointer (some ⟨C, 0, none⟩), .int .i64 x] w fun e w' => e = .returned (.int .i64 (-1)) ∧ w = w' := by
  have c1 := fun W hc => chain_has_no C Lb l x W hc hx h.bl
  have C1 := Lib.hid c1
  have k0 := h.c1
  clear c1 h
  go_enter Try.func22, Try.ntmps22
  go_wp2_with fail
  refine (C1.out _ k0).mono ?_
  rintro e w1 ⟨rfl, rfl⟩
  go_wp2_with fail
  go_ret
  exact ⟨rfl, rfl⟩
theorem chain_Last_nil (x : Int) (w : World) :
    Calls Try.prog 22 #[.pointer none, .int .i64 x] w fun e w' => e = .returned (.int .i64 (-1)) ∧ w = w' := by
  go_enter Try.func22, Try.ntmps22
  go_wp2_with fail
  refine (chain_has_nil x _).mono ?_
  rintro e w1 ⟨rfl, rfl⟩
  go_wp2_with fail
  go_ret
  exact ⟨rfl, rfl⟩

theorem chain_Len_yes (C Nb Lb n l : Nat) (S : CS) (x : Nat) (w : World) (h : ChainAt w C Nb Lb n l S) (hx : x < l) :
    Calls Try.prog 28 #[.pointer (some ⟨C, 0, none⟩), .int .i64 x] w fun e w' => e = .returned (.int .i64 (S.fl x)) ∧ w = w' := by
  have c1 := fun W hc => chain_has_yes C Lb l x W hc hx h.bl
  have C1 := Lib.hid c1
  have k0 := h.c1
  have k1 := h.l2 x hx
  have h0 : (0 : Int) ≤ (x : Int) := by omega
  have h1 : (x : Int) < (l : Int) := by omega
  generalize S.fl x = v at *
  clear c1 h
  go_enter Try.func28, Try.ntmps28
  go_wp2_with fail
  refine (C1.out _ k0).mono ?_
  rintro e w1 ⟨rfl, rfl⟩
  go_wp2_with fail
  go_ret
  exact ⟨rfl, rfl⟩
theorem chain_Len_no (C Nb Lb n l : Nat) (S : CS) (x : Int) (w : World) (h : ChainAt w C Nb Lb n l S) (hx : x < 0 ∨ (l : Int) ≤ x) :
    Calls Try.prog 28 #[.pointer (some ⟨C, 0, none⟩), .int .i64 x] w fun e w' => e = .returned (.int .i64 (0)) ∧ w = w' := by
  have c1 := fun W hc => chain_has_no C Lb l x W hc hx h.bl
  have C1 := Lib.hid c1
  have k0 := h.c1
  clear c1 h
  go_enter Try.func28, Try.ntmps28
  go_wp2_with fail
  refine (C1.out _ k0).mono ?_
  rintro e w1 ⟨rfl, rfl⟩
  go_wp2_with fail
  go_ret
  exact ⟨rfl, rfl⟩
theorem chain_Len_nil (x : Int) (w : World) :
    Calls Try.prog 28 #[.pointer none, .int .i64 x] w fun e w' => e = .returned (.int .i64 (0)) ∧ w = w' := by
  go_enter Try.func28, Try.ntmps28
  go_wp2_with fail
  refine (chain_has_nil x _).mono ?_
  rintro e w1 ⟨rfl, rfl⟩
  go_wp2_with fail
  go_ret
  exact ⟨rfl, rfl⟩

end Go.Proofs.Ytdhcmnbajkpjiaa
/-
  What is as it was outside two blocks; and a cell behind a store.
-/
namespace Go.Proofs.Ytdhcmnbajkpjiaa
open Go.RowKit
set_option linter.unusedVariables false

/-- Outside the blocks A and B the old memory is as it was; the streams are as they were; no block has gone. -/
structure Off (A B : Nat) (w w' : World) : Prop where
  os : w'.os = w.os
  tape : w'.tape = w.tape
  output : w'.output = w.output
  size : w.heap.size ≤ w'.heap.size
  block : ∀ k, k ≠ A → k ≠ B → k < w.heap.size → w'.heap[k]? = w.heap[k]?

theorem Off.refl (A B : Nat) (w : World) : Off A B w w := ⟨rfl, rfl, rfl, Nat.le_refl _, fun _ _ _ _ => rfl⟩
theorem Off.trans {A B : Nat} {a b c : World} (h : Off A B a b) (k : Off A B b c) : Off A B a c :=
  ⟨k.os.trans h.os, k.tape.trans h.tape, k.output.trans h.output, Nat.le_trans h.size k.size, fun i h1 h2 h3 => (k.block i h1 h2 (Nat.lt_of_lt_of_le h3 h.size)).trans (h.block i h1 h2 h3)⟩
theorem Off.drew {A B : Nat} {a w : World} (h : Off A B a w) : Off A B a w.drew := ⟨h.os, h.tape, h.output, h.size, h.block⟩
theorem Off.drewN {A B : Nat} {a w : World} (h : Off A B a w) (n : Nat) : Off A B a (w.drewN n) := ⟨h.os, h.tape, h.output, h.size, h.block⟩
theorem Off.alloc {A B : Nat} {a w : World} (h : Off A B a w) (o : Obj) : Off A B a (w.alloc o) :=
  h.trans ⟨rfl, rfl, rfl, by simp, fun k _ _ hk => Below.heap_alloc _ _ _ hk⟩
theorem Off.set {A B : Nat} {a w : World} (h : Off A B a w) {p : Addr} (hp : p.block = A ∨ p.block = B) (u : Value) : Off A B a (w.setCell p u) :=
  h.trans ⟨rfl, rfl, rfl, by simp [World.setCell], fun k h1 h2 _ => Below.heap_setCell _ _ _ _ (by omega)⟩
theorem Off.of_below {A B : Nat} {w w' : World} (h : Below w.heap.size w w') : Off A B w w' :=
  ⟨h.os, h.tape, h.output, h.size, fun k _ _ hk => h.block k hk⟩
/-- Seen from before the two blocks were made. -/
theorem Off.below {A B m : Nat} {w w' : World} (h : Off A B w w') (hA : m ≤ A) (hB : m ≤ B) (hm : m ≤ w.heap.size) : Below m w w' :=
  ⟨h.os, h.tape, h.output, h.size, fun k hk => h.block k (by omega) (by omega) (by omega)⟩
/-- A cell behind a store. -/
theorem cell_set {w : World} {a b : Addr} {v u : Value} (h : w.cell? b = some u) : (w.setCell a v).cell? b = if a = b then some v else some u := by
  split
  · rename_i e; subst e; exact World.cell?_setCell_same _ _ _ h
  · rename_i e; rw [World.cell?_setCell_other _ _ _ _ e, h]
end Go.Proofs.Ytdhcmnbajkpjiaa
/-
  Chain: a store into one of its cells turns its state at one place.
-/
namespace Go.Proofs.Ytdhcmnbajkpjiaa
open Go.RowKit
set_option linter.unusedVariables false

theorem ChainAt.set_n0 {w : World} {C Nb Lb n l : Nat} {S : CS} (h : ChainAt w C Nb Lb n l S) (x : Nat) (v : Int) (hx : x < n) : ChainAt (w.setCell ⟨Nb, x * 3, none⟩ (.int .i64 v)) C Nb Lb n l { S with bk := upd S.bk x v } where
  c0 := by rw [World.cell?_setCell_other _ _ _ _ (by have := h.aCN; have := h.aCL; first | (simp; done) | (simp; omega) | (simp [*]; done))]; exact h.c0
  c1 := by rw [World.cell?_setCell_other _ _ _ _ (by have := h.aCN; have := h.aCL; first | (simp; done) | (simp; omega) | (simp [*]; done))]; exact h.c1
  n0 := fun i hi => by
    rw [cell_set (h.n0 i hi)]
    by_cases e : i = x
    · subst e; rw [if_pos rfl]; simp [upd]
    · rw [if_neg (by first | (simp; done) | (simp; omega))]; simp [upd, e]
  n1 := fun i hi => by
    rw [cell_set (h.n1 i hi), if_neg (by have := h.aNL; first | (simp; done) | (simp; omega) | (simp [*]; done))]
  n2 := fun i hi => by
    rw [cell_set (h.n2 i hi), if_neg (by have := h.aNL; first | (simp; done) | (simp; omega) | (simp [*]; done))]
  l0 := fun i hi => by
    rw [cell_set (h.l0 i hi), if_neg (by have := h.aNL; first | (simp; done) | (simp; omega) | (simp [*]; done))]
  l1 := fun i hi => by
    rw [cell_set (h.l1 i hi), if_neg (by have := h.aNL; first | (simp; done) | (simp; omega) | (simp [*]; done))]
  l2 := fun i hi => by
    rw [cell_set (h.l2 i hi), if_neg (by have := h.aNL; first | (simp; done) | (simp; omega) | (simp [*]; done))]
  fzn := fun j => by rw [World.frozen?_setCell]; exact h.fzn j
  fzl := fun j => by rw [World.frozen?_setCell]; exact h.fzl j
  hC := by simpa [World.setCell] using h.hC
  hN := by simpa [World.setCell] using h.hN
  hL := by simpa [World.setCell] using h.hL
  aCN := h.aCN
  aCL := h.aCL
  aNL := h.aNL
  bn := h.bn
  bl := h.bl
theorem ChainAt.set_n1 {w : World} {C Nb Lb n l : Nat} {S : CS} (h : ChainAt w C Nb Lb n l S) (x : Nat) (v : Int) (hx : x < n) : ChainAt (w.setCell ⟨Nb, x * 3 + 1, none⟩ (.int .i64 v)) C Nb Lb n l { S with nx := upd S.nx x v } where
  c0 := by rw [World.cell?_setCell_other _ _ _ _ (by have := h.aCN; have := h.aCL; first | (simp; done) | (simp; omega) | (simp [*]; done))]; exact h.c0
  c1 := by rw [World.cell?_setCell_other _ _ _ _ (by have := h.aCN; have := h.aCL; first | (simp; done) | (simp; omega) | (simp [*]; done))]; exact h.c1
  n0 := fun i hi => by
    rw [cell_set (h.n0 i hi), if_neg (by have := h.aNL; first | (simp; done) | (simp; omega) | (simp [*]; done))]
  n1 := fun i hi => by
    rw [cell_set (h.n1 i hi)]
    by_cases e : i = x
    · subst e; rw [if_pos rfl]; simp [upd]
    · rw [if_neg (by first | (simp; done) | (simp; omega))]; simp [upd, e]
  n2 := fun i hi => by
    rw [cell_set (h.n2 i hi), if_neg (by have := h.aNL; first | (simp; done) | (simp; omega) | (simp [*]; done))]
  l0 := fun i hi => by
    rw [cell_set (h.l0 i hi), if_neg (by have := h.aNL; first | (simp; done) | (simp; omega) | (simp [*]; done))]
  l1 := fun i hi => by
    rw [cell_set (h.l1 i hi), if_neg (by have := h.aNL; first | (simp; done) | (simp; omega) | (simp [*]; done))]
  l2 := fun i hi => by
    rw [cell_set (h.l2 i hi), if_neg (by have := h.aNL; first | (simp; done) | (simp; omega) | (simp [*]; done))]
  fzn := fun j => by rw [World.frozen?_setCell]; exact h.fzn j
  fzl := fun j => by rw [World.frozen?_setCell]; exact h.fzl j
  hC := by simpa [World.setCell] using h.hC
  hN := by simpa [World.setCell] using h.hN
  hL := by simpa [World.setCell] using h.hL
  aCN := h.aCN
  aCL := h.aCL
  aNL := h.aNL
  bn := h.bn
  bl := h.bl
theorem ChainAt.set_n2 {w : World} {C Nb Lb n l : Nat} {S : CS} (h : ChainAt w C Nb Lb n l S) (x : Nat) (v : Int) (hx : x < n) : ChainAt (w.setCell ⟨Nb, x * 3 + 2, none⟩ (.int .i64 v)) C Nb Lb n l { S with ls := upd S.ls x v } where
  c0 := by rw [World.cell?_setCell_other _ _ _ _ (by have := h.aCN; have := h.aCL; first | (simp; done) | (simp; omega) | (simp [*]; done))]; exact h.c0
  c1 := by rw [World.cell?_setCell_other _ _ _ _ (by have := h.aCN; have := h.aCL; first | (simp; done) | (simp; omega) | (simp [*]; done))]; exact h.c1
  n0 := fun i hi => by
    rw [cell_set (h.n0 i hi), if_neg (by have := h.aNL; first | (simp; done) | (simp; omega) | (simp [*]; done))]
  n1 := fun i hi => by
    rw [cell_set (h.n1 i hi), if_neg (by have := h.aNL; first | (simp; done) | (simp; omega) | (simp [*]; done))]
  n2 := fun i hi => by
    rw [cell_set (h.n2 i hi)]
    by_cases e : i = x
    · subst e; rw [if_pos rfl]; simp [upd]
    · rw [if_neg (by first | (simp; done) | (simp; omega))]; simp [upd, e]
  l0 := fun i hi => by
    rw [cell_set (h.l0 i hi), if_neg (by have := h.aNL; first | (simp; done) | (simp; omega) | (simp [*]; done))]
  l1 := fun i hi => by
    rw [cell_set (h.l1 i hi), if_neg (by have := h.aNL; first | (simp; done) | (simp; omega) | (simp [*]; done))]
  l2 := fun i hi => by
    rw [cell_set (h.l2 i hi), if_neg (by have := h.aNL; first | (simp; done) | (simp; omega) | (simp [*]; done))]
  fzn := fun j => by rw [World.frozen?_setCell]; exact h.fzn j
  fzl := fun j => by rw [World.frozen?_setCell]; exact h.fzl j
  hC := by simpa [World.setCell] using h.hC
  hN := by simpa [World.setCell] using h.hN
  hL := by simpa [World.setCell] using h.hL
  aCN := h.aCN
  aCL := h.aCL
  aNL := h.aNL
  bn := h.bn
  bl := h.bl
theorem ChainAt.set_l0 {w : World} {C Nb Lb n l : Nat} {S : CS} (h : ChainAt w C Nb Lb n l S) (x : Nat) (v : Int) (hx : x < l) : ChainAt (w.setCell ⟨Lb, x * 3, none⟩ (.int .i64 v)) C Nb Lb n l { S with fb := upd S.fb x v } where
  c0 := by rw [World.cell?_setCell_other _ _ _ _ (by have := h.aCN; have := h.aCL; first | (simp; done) | (simp; omega) | (simp [*]; done))]; exact h.c0
  c1 := by rw [World.cell?_setCell_other _ _ _ _ (by have := h.aCN; have := h.aCL; first | (simp; done) | (simp; omega) | (simp [*]; done))]; exact h.c1
  n0 := fun i hi => by
    rw [cell_set (h.n0 i hi), if_neg (by have := h.aNL; first | (simp; done) | (simp; omega) | (simp [*]; done))]
  n1 := fun i hi => by
    rw [cell_set (h.n1 i hi), if_neg (by have := h.aNL; first | (simp; done) | (simp; omega) | (simp [*]; done))]
  n2 := fun i hi => by
    rw [cell_set (h.n2 i hi), if_neg (by have := h.aNL; first | (simp; done) | (simp; omega) | (simp [*]; done))]
  l0 := fun i hi => by
    rw [cell_set (h.l0 i hi)]
    by_cases e : i = x
    · subst e; rw [if_pos rfl]; simp [upd]
    · rw [if_neg (by first | (simp; done) | (simp; omega))]; simp [upd, e]
  l1 := fun i hi => by
    rw [cell_set (h.l1 i hi), if_neg (by have := h.aNL; first | (simp; done) | (simp; omega) | (simp [*]; done))]
  l2 := fun i hi => by
    rw [cell_set (h.l2 i hi), if_neg (by have := h.aNL; first | (simp; done) | (simp; omega) | (simp [*]; done))]
  fzn := fun j => by rw [World.frozen?_setCell]; exact h.fzn j
  fzl := fun j => by rw [World.frozen?_setCell]; exact h.fzl j
  hC := by simpa [World.setCell] using h.hC
  hN := by simpa [World.setCell] using h.hN
  hL := by simpa [World.setCell] using h.hL
  aCN := h.aCN
  aCL := h.aCL
  aNL := h.aNL
  bn := h.bn
  bl := h.bl
theorem ChainAt.set_l1 {w : World} {C Nb Lb n l : Nat} {S : CS} (h : ChainAt w C Nb Lb n l S) (x : Nat) (v : Int) (hx : x < l) : ChainAt (w.setCell ⟨Lb, x * 3 + 1, none⟩ (.int .i64 v)) C Nb Lb n l { S with fn := upd S.fn x v } where
  c0 := by rw [World.cell?_setCell_other _ _ _ _ (by have := h.aCN; have := h.aCL; first | (simp; done) | (simp; omega) | (simp [*]; done))]; exact h.c0
  c1 := by rw [World.cell?_setCell_other _ _ _ _ (by have := h.aCN; have := h.aCL; first | (simp; done) | (simp; omega) | (simp [*]; done))]; exact h.c1
  n0 := fun i hi => by
    rw [cell_set (h.n0 i hi), if_neg (by have := h.aNL; first | (simp; done) | (simp; omega) | (simp [*]; done))]
  n1 := fun i hi => by
    rw [cell_set (h.n1 i hi), if_neg (by have := h.aNL; first | (simp; done) | (simp; omega) | (simp [*]; done))]
  n2 := fun i hi => by
    rw [cell_set (h.n2 i hi), if_neg (by have := h.aNL; first | (simp; done) | (simp; omega) | (simp [*]; done))]
  l0 := fun i hi => by
    rw [cell_set (h.l0 i hi), if_neg (by have := h.aNL; first | (simp; done) | (simp; omega) | (simp [*]; done))]
  l1 := fun i hi => by
    rw [cell_set (h.l1 i hi)]
    by_cases e : i = x
    · subst e; rw [if_pos rfl]; simp [upd]
    · rw [if_neg (by first | (simp; done) | (simp; omega))]; simp [upd, e]
  l2 := fun i hi => by
    rw [cell_set (h.l2 i hi), if_neg (by have := h.aNL; first | (simp; done) | (simp; omega) | (simp [*]; done))]
  fzn := fun j => by rw [World.frozen?_setCell]; exact h.fzn j
  fzl := fun j => by rw [World.frozen?_setCell]; exact h.fzl j
  hC := by simpa [World.setCell] using h.hC
  hN := by simpa [World.setCell] using h.hN
  hL := by simpa [World.setCell] using h.hL
  aCN := h.aCN
  aCL := h.aCL
  aNL := h.aNL
  bn := h.bn
  bl := h.bl
theorem ChainAt.set_l2 {w : World} {C Nb Lb n l : Nat} {S : CS} (h : ChainAt w C Nb Lb n l S) (x : Nat) (v : Int) (hx : x < l) : ChainAt (w.setCell ⟨Lb, x * 3 + 2, none⟩ (.int .i64 v)) C Nb Lb n l { S with fl := upd S.fl x v } where
  c0 := by rw [World.cell?_setCell_other _ _ _ _ (by have := h.aCN; have := h.aCL; first | (simp; done) | (simp; omega) | (simp [*]; done))]; exact h.c0
  c1 := by rw [World.cell?_setCell_other _ _ _ _ (by have := h.aCN; have := h.aCL; first | (simp; done) | (simp; omega) | (simp [*]; done))]; exact h.c1
  n0 := fun i hi => by
    rw [cell_set (h.n0 i hi), if_neg (by have := h.aNL; first | (simp; done) | (simp; omega) | (simp [*]; done))]
  n1 := fun i hi => by
    rw [cell_set (h.n1 i hi), if_neg (by have := h.aNL; first | (simp; done) | (simp; omega) | (simp [*]; done))]
  n2 := fun i hi => by
    rw [cell_set (h.n2 i hi), if_neg (by have := h.aNL; first | (simp; done) | (simp; omega) | (simp [*]; done))]
  l0 := fun i hi => by
    rw [cell_set (h.l0 i hi), if_neg (by have := h.aNL; first | (simp; done) | (simp; omega) | (simp [*]; done))]
  l1 := fun i hi => by
    rw [cell_set (h.l1 i hi), if_neg (by have := h.aNL; first | (simp; done) | (simp; omega) | (simp [*]; done))]
  l2 := fun i hi => by
    rw [cell_set (h.l2 i hi)]
    by_cases e : i = x
    · subst e; rw [if_pos rfl]; simp [upd]
    · rw [if_neg (by first | (simp; done) | (simp; omega))]; simp [upd, e]
  fzn := fun j => by rw [World.frozen?_setCell]; exact h.fzn j
  fzl := fun j => by rw [World.frozen?_setCell]; exact h.fzl j
  hC := by simpa [World.setCell] using h.hC
  hN := by simpa [World.setCell] using h.hN
  hL := by simpa [World.setCell] using h.hL
  aCN := h.aCN
  aCL := h.aCL
  aNL := h.aNL
  bn := h.bn
  bl := h.bl
end Go.Proofs.Ytdhcmnbajkpjiaa
/-
  Chain: the contract of Add.
-/
namespace Go.Proofs.Ytdhcmnbajkpjiaa
open Go.RowKit
set_option linter.unusedVariables false
attribute [local go_sem] drewN_alloc drewN_setCell

theorem ChainAt.drew {w : World} {C Nb Lb n l : Nat} {S : CS} (h : ChainAt w C Nb Lb n l S) : ChainAt w.drew C Nb Lb n l S := h.keep (Below.refl _ _).drew
theorem ChainAt.drewN {w : World} {C Nb Lb n l : Nat} {S : CS} (h : ChainAt w C Nb Lb n l S) (k : Nat) : ChainAt (w.drewN k) C Nb Lb n l S := h.keep (bel_drewN (Below.refl _ _) k)

theorem post_name {Q : Exit → Act → World → Prop} {e : Exit} {a : Act} {w : World} (h : ∀ W, W = w → Q e a W) : Q e a w := h w rfl

set_option maxHeartbeats 2000000 in
theorem chain_Add_far (C Nb Lb n l : Nat) (S : CS) (x i : Nat) (w : World) (h : ChainAt w C Nb Lb n l S) (hx : x < n) (hi : i < l) (hs : S.ls x < 0) (y : Nat) (hy : S.fb i = (y : Int)) (hyn : y < n) (hf : 0 ≤ S.fl i ∧ S.fl i ≤ 1048576) :
    Calls Try.prog 19 #[.pointer (some ⟨C, 0, none⟩), .int .i64 i, .int .i64 x] w fun e w' => e = .returned (.bool true) ∧ ChainAt w' C Nb Lb n l (S.add i x) ∧ Off Nb Lb w w' := by
  have c1 := fun W hc => chain_has_yes C Lb l i W hc hi h.bl
  have c2 := fun W hc => chain_is_yes C Nb n x W hc hx h.bn
  have C1 := Lib.hid c1
  have C2 := Lib.hid c2
  have H := Lib.hid h
  have k0 := h.c0
  have k1 := h.c1
  have k2 := h.n2 x hx
  have l0 := h.l0 i hi
  have x0 := h.n0 x hx
  have x1 := h.n1 x hx
  have f1 := h.fzn
  have f2 := h.fzl
  have aCN := h.aCN
  have aCL := h.aCL
  have aNL := h.aNL
  have h0 : (0 : Int) ≤ (x : Int) := by omega
  have h1 : (x : Int) < (n : Int) := by omega
  have h2 : (0 : Int) ≤ (i : Int) := by omega
  have h3 : (i : Int) < (l : Int) := by omega
  rw [hy] at l0
  generalize S.ls x = v at *
  clear c1 c2 h
  go_enter Try.func19, Try.ntmps19
  go_wp2_with fail
  refine (C1.out _ k1).mono ?_
  rintro e w1 ⟨rfl, rfl⟩
  go_wp2_with fail
  refine (C2.out _ k0).mono ?_
  rintro e w1 ⟨rfl, rfl⟩
  go_wp2_with fail
  go_region
  refine post_name ?_
  intro W hW
  have hc1 := (((H.out.set_n0 x y hx).set_n1 x (-1) hx).set_n2 x i hx).drew
  have ho1 := ((((Off.refl Nb Lb w).set (p := ⟨Nb, x * 3, none⟩) (Or.inl rfl) (.int .i64 y)).set (p := ⟨Nb, x * 3 + 1, none⟩) (Or.inl rfl) (.int .i64 (-1))).set (p := ⟨Nb, x * 3 + 2, none⟩) (Or.inl rfl) (.int .i64 i)).drew
  rw [← hW] at hc1 ho1
  clear hW k0 k1 k2 l0 x0 x1 f1 f2
  have g0 : (0 : Int) ≤ (y : Int) := by omega
  have g1 : (y : Int) < (n : Int) := by omega
  have k0 := hc1.c0
  have l0 := hc1.l0 i hi
  have l2 := hc1.l2 i hi
  have y1 := hc1.n1 y hyn
  have f1 := hc1.fzn
  have f2 := hc1.fzl
  dsimp only at l0 l2 y1
  rw [hy] at l0
  obtain ⟨t, ht⟩ : ∃ t, upd S.nx x (-1) y = t := ⟨_, rfl⟩
  rw [ht] at y1
  have HC1 := Lib.hid hc1
  have HO1 := Lib.hid ho1
  clear hc1 ho1 ht
  go_wp2_with fail
  go_region
  refine post_name ?_
  intro W2 hW2
  have hc2 := (HC1.out.set_n1 y x hyn).drew
  have ho2 := (HO1.out.set (p := ⟨Nb, y * 3 + 1, none⟩) (Or.inl rfl) (.int .i64 x)).drew
  rw [← hW2] at hc2 ho2
  clear hW2 k0 l0 l2 y1 f1 f2
  have l0 := hc2.l0 i hi
  have l2 := hc2.l2 i hi
  have f2 := hc2.fzl
  dsimp only at l0 l2 hc2
  have HC2 := Lib.hid hc2
  have HO2 := Lib.hid ho2
  clear hc2 ho2
  go_wp2_with fail
  go_ret
  refine ⟨rfl, ?_, (HO2.out.set (p := ⟨Lb, i * 3, none⟩) (Or.inr rfl) (.int .i64 x)).set (p := ⟨Lb, i * 3 + 2, none⟩) (Or.inr rfl) (.int .i64 (S.fl i + 1))⟩
  have e : S.add i x = { bk := upd S.bk x y, nx := upd (upd S.nx x (-1)) y x, ls := upd S.ls x i, fb := upd S.fb i x, fn := S.fn, fl := upd S.fl i (S.fl i + 1) } := by
    unfold CS.add
    rw [hy, if_pos (by omega), if_pos (by omega), Int.toNat_natCast]
  rw [e]
  exact (HC2.out.set_l0 i x hi).set_l2 i (S.fl i + 1) hi

set_option maxHeartbeats 2000000 in
theorem chain_Add_first (C Nb Lb n l : Nat) (S : CS) (x i : Nat) (w : World) (h : ChainAt w C Nb Lb n l S) (hx : x < n) (hi : i < l) (hs : S.ls x < 0) (hy : S.fb i = -1) (hf : 0 ≤ S.fl i ∧ S.fl i ≤ 1048576) :
    Calls Try.prog 19 #[.pointer (some ⟨C, 0, none⟩), .int .i64 i, .int .i64 x] w fun e w' => e = .returned (.bool true) ∧ ChainAt w' C Nb Lb n l (S.add i x) ∧ Off Nb Lb w w' := by
  have c1 := fun W hc => chain_has_yes C Lb l i W hc hi h.bl
  have c2 := fun W hc => chain_is_yes C Nb n x W hc hx h.bn
  have C1 := Lib.hid c1
  have C2 := Lib.hid c2
  have H := Lib.hid h
  have k0 := h.c0
  have k1 := h.c1
  have k2 := h.n2 x hx
  have l0 := h.l0 i hi
  have x0 := h.n0 x hx
  have x1 := h.n1 x hx
  have f1 := h.fzn
  have f2 := h.fzl
  have aCN := h.aCN
  have aCL := h.aCL
  have aNL := h.aNL
  have h0 : (0 : Int) ≤ (x : Int) := by omega
  have h1 : (x : Int) < (n : Int) := by omega
  have h2 : (0 : Int) ≤ (i : Int) := by omega
  have h3 : (i : Int) < (l : Int) := by omega
  rw [hy] at l0
  generalize S.ls x = v at *
  clear c1 c2 h
  go_enter Try.func19, Try.ntmps19
  go_wp2_with fail
  refine (C1.out _ k1).mono ?_
  rintro e w1 ⟨rfl, rfl⟩
  go_wp2_with fail
  refine (C2.out _ k0).mono ?_
  rintro e w1 ⟨rfl, rfl⟩
  go_wp2_with fail
  go_region
  refine post_name ?_
  intro W hW
  have hc1 := (((H.out.set_n0 x (-1) hx).set_n1 x (-1) hx).set_n2 x i hx).drew
  have ho1 := ((((Off.refl Nb Lb w).set (p := ⟨Nb, x * 3, none⟩) (Or.inl rfl) (.int .i64 (-1))).set (p := ⟨Nb, x * 3 + 1, none⟩) (Or.inl rfl) (.int .i64 (-1))).set (p := ⟨Nb, x * 3 + 2, none⟩) (Or.inl rfl) (.int .i64 i)).drew
  rw [← hW] at hc1 ho1
  clear hW k0 k1 k2 l0 x0 x1 f1 f2
  have l0 := hc1.l0 i hi
  have l1 := hc1.l1 i hi
  have l2 := hc1.l2 i hi
  have f2 := hc1.fzl
  dsimp only at l0 l1 l2 hc1
  rw [hy] at l0
  have HC1 := Lib.hid hc1
  have HO1 := Lib.hid ho1
  clear hc1 ho1
  go_wp2_with fail
  go_ret
  refine ⟨rfl, ?_, ((HO1.out.set (p := ⟨Lb, i * 3 + 1, none⟩) (Or.inr rfl) (.int .i64 x)).set (p := ⟨Lb, i * 3, none⟩) (Or.inr rfl) (.int .i64 x)).set (p := ⟨Lb, i * 3 + 2, none⟩) (Or.inr rfl) (.int .i64 (S.fl i + 1))⟩
  have e : S.add i x = { bk := upd S.bk x (-1), nx := upd S.nx x (-1), ls := upd S.ls x i, fb := upd S.fb i x, fn := upd S.fn i x, fl := upd S.fl i (S.fl i + 1) } := by
    unfold CS.add
    rw [hy, if_neg (by omega), if_neg (by omega)]
  rw [e]
  exact ((HC1.out.set_l1 i x hi).set_l0 i x hi).set_l2 i (S.fl i + 1) hi
end Go.Proofs.Ytdhcmnbajkpjiaa
/-
  Chain: what Add refuses.
-/
namespace Go.Proofs.Ytdhcmnbajkpjiaa
open Go.RowKit
set_option linter.unusedVariables false

theorem chain_Add_nil (i x : Int) (w : World) : Calls Try.prog 19 #[.pointer none, .int .i64 i, .int .i64 x] w fun e w' => e = .returned (.bool false) ∧ w = w' := by
  go_enter Try.func19, Try.ntmps19
  go_wp2_with fail
  refine (chain_has_nil i _).mono ?_
  rintro e w1 ⟨rfl, rfl⟩
  go_wp2_with fail
  go_ret
  exact ⟨rfl, rfl⟩

theorem chain_Add_nolist (C Nb Lb n l : Nat) (S : CS) (x i : Int) (w : World) (h : ChainAt w C Nb Lb n l S) (hi : i < 0 ∨ (l : Int) ≤ i) : Calls Try.prog 19 #[.pointer (some ⟨C, 0, none⟩), .int .i64 i, .int .i64 x] w fun e w' => e = .returned (.bool false) ∧ w = w' := by
  have c1 := fun W hc => chain_has_no C Lb l i W hc hi h.bl
  have C1 := Lib.hid c1
  have k1 := h.c1
  clear c1 h hi
  go_enter Try.func19, Try.ntmps19
  go_wp2_with fail
  refine (C1.out _ k1).mono ?_
  rintro e w1 ⟨rfl, rfl⟩
  go_wp2_with fail
  go_ret
  exact ⟨rfl, rfl⟩

theorem chain_Add_nonode (C Nb Lb n l : Nat) (S : CS) (x : Int) (i : Nat) (w : World) (h : ChainAt w C Nb Lb n l S) (hi : i < l) (hx : x < 0 ∨ (n : Int) ≤ x) : Calls Try.prog 19 #[.pointer (some ⟨C, 0, none⟩), .int .i64 i, .int .i64 x] w fun e w' => e = .returned (.bool false) ∧ w = w' := by
  have c1 := fun W hc => chain_has_yes C Lb l i W hc hi h.bl
  have c2 := fun W hc => chain_is_no C Nb n x W hc hx h.bn
  have C1 := Lib.hid c1
  have C2 := Lib.hid c2
  have k0 := h.c0
  have k1 := h.c1
  clear c1 c2 h hx
  go_enter Try.func19, Try.ntmps19
  go_wp2_with fail
  refine (C1.out _ k1).mono ?_
  rintro e w1 ⟨rfl, rfl⟩
  go_wp2_with fail
  refine (C2.out _ k0).mono ?_
  rintro e w1 ⟨rfl, rfl⟩
  go_wp2_with fail
  go_ret
  exact ⟨rfl, rfl⟩

theorem chain_Add_inlist (C Nb Lb n l : Nat) (S : CS) (x i : Nat) (w : World) (h : ChainAt w C Nb Lb n l S) (hi : i < l) (hx : x < n) (hs : 0 ≤ S.ls x) : Calls Try.prog 19 #[.pointer (some ⟨C, 0, none⟩), .int .i64 i, .int .i64 x] w fun e w' => e = .returned (.bool false) ∧ w = w' := by
  have c1 := fun W hc => chain_has_yes C Lb l i W hc hi h.bl
  have c2 := fun W hc => chain_is_yes C Nb n x W hc hx h.bn
  have C1 := Lib.hid c1
  have C2 := Lib.hid c2
  have k0 := h.c0
  have k1 := h.c1
  have k2 := h.n2 x hx
  have h0 : (0 : Int) ≤ (x : Int) := by omega
  have h1 : (x : Int) < (n : Int) := by omega
  generalize S.ls x = v at *
  clear c1 c2 h
  go_enter Try.func19, Try.ntmps19
  go_wp2_with fail
  refine (C1.out _ k1).mono ?_
  rintro e w1 ⟨rfl, rfl⟩
  go_wp2_with fail
  refine (C2.out _ k0).mono ?_
  rintro e w1 ⟨rfl, rfl⟩
  go_wp2_with fail
  go_ret
  exact ⟨rfl, rfl⟩

end Go.Proofs.Ytdhcmnbajkpjiaa
/-
  Chain: the contract of Drop.
-/
namespace Go.Proofs.Ytdhcmnbajkpjiaa
open Go.RowKit
set_option linter.unusedVariables false
attribute [local go_sem] drewN_alloc drewN_setCell

theorem Off.cell {A B : Nat} {w w' : World} (h : Off A B w w') {a : Addr} (h1 : a.block ≠ A) (h2 : a.block ≠ B) (h3 : a.block < w.heap.size) : w'.cell? a = w.cell? a := by
  unfold World.cell?
  rw [h.block a.block h1 h2 h3]

set_option maxHeartbeats 2000000 in
theorem chain_Drop_bf (C Nb Lb n l : Nat) (S : CS) (x : Nat) (w : World) (h : ChainAt w C Nb Lb n l S) (hx : x < n) (i : Nat) (hs : S.ls x = (i : Int)) (hi : i < l) (b : Nat) (hb : S.bk x = (b : Int)) (hbn : b < n) (f : Nat) (hf : S.nx x = (f : Int)) (hfn : f < n) (hl : -1048576 ≤ S.fl i ∧ S.fl i ≤ 1048576) :
    Calls Try.prog 21 #[.pointer (some ⟨C, 0, none⟩), .int .i64 x] w fun e w' => e = .returned (.bool true) ∧ ChainAt w' C Nb Lb n l (S.drop x) ∧ Off Nb Lb w w' := by
  have c1 := fun W => chain_Of_yes C Nb Lb n l S x W
  rw [hs] at c1
  have C1 := Lib.hid c1
  have H := Lib.hid h
  have k0 := h.c0
  have x0 := h.n0 x hx
  have x1 := h.n1 x hx
  have x2 := h.n2 x hx
  rw [hs] at x2
  rw [hb] at x0
  rw [hf] at x1
  have h0 : (0 : Int) ≤ (x : Int) := by omega
  have h1 : (x : Int) < (n : Int) := by omega
  have h2 : (0 : Int) ≤ (i : Int) := by omega
  have h3 : (i : Int) < (l : Int) := by omega
  have q1 := h.hN
  have q2 := h.hL
  clear c1 h
  go_enter Try.func21, Try.ntmps21
  go_wp2_with fail
  refine (C1.out _ H.out hx).mono ?_
  rintro e w1 ⟨rfl, rfl⟩
  go_wp2_with fail
  refine region_name ?_
  intro W hW
  have hc0 : ChainAt W C Nb Lb n l S := by rw [hW]; exact H.out.keep (bel_alloc (Below.refl _ _) _)
  have ho0 : Off Nb Lb w W := by rw [hW]; exact (Off.refl Nb Lb w).alloc _
  obtain ⟨X, hX⟩ : ∃ X, w.heap.size = X := ⟨_, rfl⟩
  have X0 : W.cell? ⟨X, 0, none⟩ = some (.int .i64 (b : Int)) := by rw [hW, ← hX]; simp [go_sem]
  have X1 : W.cell? ⟨X, 1, none⟩ = some (.int .i64 (f : Int)) := by rw [hW, ← hX]; simp [go_sem]
  have X2 : W.cell? ⟨X, 2, none⟩ = some (.int .i64 i) := by rw [hW, ← hX]; simp [go_sem]
  have aX1 : X ≠ Nb := by omega
  have aX2 : X ≠ Lb := by omega
  have aNL := hc0.aNL
  have aCN := hc0.aCN
  have aCL := hc0.aCL
  have aX3 : X < W.heap.size := by rw [hW, ← hX]; simp
  rw [hX]
  have HC0 := Lib.hid hc0
  have HO0 := Lib.hid ho0
  clear hW k0 x0 x1 x2 q1 q2 hX C1 hc0 ho0
  have g0 : (0 : Int) ≤ (b : Int) := by omega
  have g1 : (b : Int) < (n : Int) := by omega
  have g2 : (0 : Int) ≤ (f : Int) := by omega
  have g3 : (f : Int) < (n : Int) := by omega
  have k0 := HC0.out.c0
  have k1 := HC0.out.c1
  have f1 := HC0.out.fzn
  have f2 := HC0.out.fzl
  obtain ⟨vn0x, cn0x⟩ : ∃ v, W.cell? ⟨Nb, x * 3, none⟩ = some (.int .i64 v) := ⟨_, HC0.out.n0 x hx⟩
  obtain ⟨vn1x, cn1x⟩ : ∃ v, W.cell? ⟨Nb, x * 3 + 1, none⟩ = some (.int .i64 v) := ⟨_, HC0.out.n1 x hx⟩
  obtain ⟨vn2x, cn2x⟩ : ∃ v, W.cell? ⟨Nb, x * 3 + 2, none⟩ = some (.int .i64 v) := ⟨_, HC0.out.n2 x hx⟩
  obtain ⟨vl0i, cl0i⟩ : ∃ v, W.cell? ⟨Lb, i * 3, none⟩ = some (.int .i64 v) := ⟨_, HC0.out.l0 i hi⟩
  obtain ⟨vl1i, cl1i⟩ : ∃ v, W.cell? ⟨Lb, i * 3 + 1, none⟩ = some (.int .i64 v) := ⟨_, HC0.out.l1 i hi⟩
  obtain ⟨vn1b, cn1b⟩ : ∃ v, W.cell? ⟨Nb, b * 3 + 1, none⟩ = some (.int .i64 v) := ⟨_, HC0.out.n1 b hbn⟩
  obtain ⟨vn0f, cn0f⟩ : ∃ v, W.cell? ⟨Nb, f * 3, none⟩ = some (.int .i64 v) := ⟨_, HC0.out.n0 f hfn⟩
  have cl2 := HC0.out.l2 i hi
  try dsimp only at cl2
  go_region
  go_wp2_with fail
  go_region
  refine post_name ?_
  intro W1 hW1
  have hc1 : ChainAt W1 C Nb Lb n l { bk := S.bk, nx := upd (S.nx) b (f : Int), ls := S.ls, fb := S.fb, fn := S.fn, fl := S.fl } := by
    rw [hW1]
    repeat (refine ChainAt.drew ?_)
    exact (HC0.out.set_n1 b (f : Int) hbn)
  have ho1 : Off Nb Lb w W1 := by
    rw [hW1]
    repeat (refine Off.drew ?_)
    exact (HO0.out.set (p := ⟨Nb, b * 3 + 1, none⟩) (Or.inl rfl) (.int .i64 (f : Int)))
  have hd1 : Off Nb Lb W W1 := by
    rw [hW1]
    repeat (refine Off.drew ?_)
    exact ((Off.refl Nb Lb W).set (p := ⟨Nb, b * 3 + 1, none⟩) (Or.inl rfl) (.int .i64 (f : Int)))
  have X0 := (hd1.cell (a := ⟨X, 0, none⟩) aX1 aX2 aX3).trans X0
  have X1 := (hd1.cell (a := ⟨X, 1, none⟩) aX1 aX2 aX3).trans X1
  have X2 := (hd1.cell (a := ⟨X, 2, none⟩) aX1 aX2 aX3).trans X2
  have aX3 := Nat.lt_of_lt_of_le aX3 hd1.size
  have HC1 := Lib.hid hc1
  have HO1 := Lib.hid ho1
  clear hW1 hc1 ho1 hd1 k0 k1 f1 f2 cn0x cn1x cn2x cl0i cl1i cn1b cn0f cl2
  have k0 := HC1.out.c0
  have k1 := HC1.out.c1
  have f1 := HC1.out.fzn
  have f2 := HC1.out.fzl
  obtain ⟨vn0x, cn0x⟩ : ∃ v, W1.cell? ⟨Nb, x * 3, none⟩ = some (.int .i64 v) := ⟨_, HC1.out.n0 x hx⟩
  obtain ⟨vn1x, cn1x⟩ : ∃ v, W1.cell? ⟨Nb, x * 3 + 1, none⟩ = some (.int .i64 v) := ⟨_, HC1.out.n1 x hx⟩
  obtain ⟨vn2x, cn2x⟩ : ∃ v, W1.cell? ⟨Nb, x * 3 + 2, none⟩ = some (.int .i64 v) := ⟨_, HC1.out.n2 x hx⟩
  obtain ⟨vl0i, cl0i⟩ : ∃ v, W1.cell? ⟨Lb, i * 3, none⟩ = some (.int .i64 v) := ⟨_, HC1.out.l0 i hi⟩
  obtain ⟨vl1i, cl1i⟩ : ∃ v, W1.cell? ⟨Lb, i * 3 + 1, none⟩ = some (.int .i64 v) := ⟨_, HC1.out.l1 i hi⟩
  obtain ⟨vn1b, cn1b⟩ : ∃ v, W1.cell? ⟨Nb, b * 3 + 1, none⟩ = some (.int .i64 v) := ⟨_, HC1.out.n1 b hbn⟩
  obtain ⟨vn0f, cn0f⟩ : ∃ v, W1.cell? ⟨Nb, f * 3, none⟩ = some (.int .i64 v) := ⟨_, HC1.out.n0 f hfn⟩
  have cl2 := HC1.out.l2 i hi
  try dsimp only at cl2
  go_wp2_with fail
  go_region
  refine post_name ?_
  intro W2 hW2
  have hc2 : ChainAt W2 C Nb Lb n l { bk := upd (S.bk) f (b : Int), nx := upd (S.nx) b (f : Int), ls := S.ls, fb := S.fb, fn := S.fn, fl := S.fl } := by
    rw [hW2]
    repeat (refine ChainAt.drew ?_)
    exact (HC1.out.set_n0 f (b : Int) hfn)
  have ho2 : Off Nb Lb w W2 := by
    rw [hW2]
    repeat (refine Off.drew ?_)
    exact (HO1.out.set (p := ⟨Nb, f * 3, none⟩) (Or.inl rfl) (.int .i64 (b : Int)))
  have hd2 : Off Nb Lb W1 W2 := by
    rw [hW2]
    repeat (refine Off.drew ?_)
    exact ((Off.refl Nb Lb W1).set (p := ⟨Nb, f * 3, none⟩) (Or.inl rfl) (.int .i64 (b : Int)))
  have X0 := (hd2.cell (a := ⟨X, 0, none⟩) aX1 aX2 aX3).trans X0
  have X1 := (hd2.cell (a := ⟨X, 1, none⟩) aX1 aX2 aX3).trans X1
  have X2 := (hd2.cell (a := ⟨X, 2, none⟩) aX1 aX2 aX3).trans X2
  have aX3 := Nat.lt_of_lt_of_le aX3 hd2.size
  have HC2 := Lib.hid hc2
  have HO2 := Lib.hid ho2
  clear hW2 hc2 ho2 hd2 k0 k1 f1 f2 cn0x cn1x cn2x cl0i cl1i cn1b cn0f cl2
  have k0 := HC2.out.c0
  have k1 := HC2.out.c1
  have f1 := HC2.out.fzn
  have f2 := HC2.out.fzl
  obtain ⟨vn0x, cn0x⟩ : ∃ v, W2.cell? ⟨Nb, x * 3, none⟩ = some (.int .i64 v) := ⟨_, HC2.out.n0 x hx⟩
  obtain ⟨vn1x, cn1x⟩ : ∃ v, W2.cell? ⟨Nb, x * 3 + 1, none⟩ = some (.int .i64 v) := ⟨_, HC2.out.n1 x hx⟩
  obtain ⟨vn2x, cn2x⟩ : ∃ v, W2.cell? ⟨Nb, x * 3 + 2, none⟩ = some (.int .i64 v) := ⟨_, HC2.out.n2 x hx⟩
  obtain ⟨vl0i, cl0i⟩ : ∃ v, W2.cell? ⟨Lb, i * 3, none⟩ = some (.int .i64 v) := ⟨_, HC2.out.l0 i hi⟩
  obtain ⟨vl1i, cl1i⟩ : ∃ v, W2.cell? ⟨Lb, i * 3 + 1, none⟩ = some (.int .i64 v) := ⟨_, HC2.out.l1 i hi⟩
  obtain ⟨vn1b, cn1b⟩ : ∃ v, W2.cell? ⟨Nb, b * 3 + 1, none⟩ = some (.int .i64 v) := ⟨_, HC2.out.n1 b hbn⟩
  obtain ⟨vn0f, cn0f⟩ : ∃ v, W2.cell? ⟨Nb, f * 3, none⟩ = some (.int .i64 v) := ⟨_, HC2.out.n0 f hfn⟩
  have cl2 := HC2.out.l2 i hi
  try dsimp only at cl2
  go_wp2_with fail
  go_ret
  refine ⟨rfl, ?_, ((((HO2.out.set (p := ⟨Lb, i * 3 + 2, none⟩) (Or.inr rfl) (.int .i64 (S.fl i - 1))).set (p := ⟨Nb, x * 3, none⟩) (Or.inl rfl) (.int .i64 (-1))).set (p := ⟨Nb, x * 3 + 1, none⟩) (Or.inl rfl) (.int .i64 (-1))).set (p := ⟨Nb, x * 3 + 2, none⟩) (Or.inl rfl) (.int .i64 (-1)))⟩
  have e : S.drop x = { bk := upd (upd (S.bk) f (b : Int)) x (-1), nx := upd (upd (S.nx) b (f : Int)) x (-1), ls := upd (S.ls) x (-1), fb := S.fb, fn := S.fn, fl := upd (S.fl) i (S.fl i - 1) } := by
    unfold CS.drop
    rw [hb, hf, hs]
    simp
  rw [e]

  exact ((((HC2.out.set_l2 i (S.fl i - 1) hi).set_n0 x (-1) hx).set_n1 x (-1) hx).set_n2 x (-1) hx)

set_option maxHeartbeats 2000000 in
theorem chain_Drop_b (C Nb Lb n l : Nat) (S : CS) (x : Nat) (w : World) (h : ChainAt w C Nb Lb n l S) (hx : x < n) (i : Nat) (hs : S.ls x = (i : Int)) (hi : i < l) (b : Nat) (hb : S.bk x = (b : Int)) (hbn : b < n) (hf : S.nx x = -1) (hl : -1048576 ≤ S.fl i ∧ S.fl i ≤ 1048576) :
    Calls Try.prog 21 #[.pointer (some ⟨C, 0, none⟩), .int .i64 x] w fun e w' => e = .returned (.bool true) ∧ ChainAt w' C Nb Lb n l (S.drop x) ∧ Off Nb Lb w w' := by
  have c1 := fun W => chain_Of_yes C Nb Lb n l S x W
  rw [hs] at c1
  have C1 := Lib.hid c1
  have H := Lib.hid h
  have k0 := h.c0
  have x0 := h.n0 x hx
  have x1 := h.n1 x hx
  have x2 := h.n2 x hx
  rw [hs] at x2
  rw [hb] at x0
  rw [hf] at x1
  have h0 : (0 : Int) ≤ (x : Int) := by omega
  have h1 : (x : Int) < (n : Int) := by omega
  have h2 : (0 : Int) ≤ (i : Int) := by omega
  have h3 : (i : Int) < (l : Int) := by omega
  have q1 := h.hN
  have q2 := h.hL
  clear c1 h
  go_enter Try.func21, Try.ntmps21
  go_wp2_with fail
  refine (C1.out _ H.out hx).mono ?_
  rintro e w1 ⟨rfl, rfl⟩
  go_wp2_with fail
  refine region_name ?_
  intro W hW
  have hc0 : ChainAt W C Nb Lb n l S := by rw [hW]; exact H.out.keep (bel_alloc (Below.refl _ _) _)
  have ho0 : Off Nb Lb w W := by rw [hW]; exact (Off.refl Nb Lb w).alloc _
  obtain ⟨X, hX⟩ : ∃ X, w.heap.size = X := ⟨_, rfl⟩
  have X0 : W.cell? ⟨X, 0, none⟩ = some (.int .i64 (b : Int)) := by rw [hW, ← hX]; simp [go_sem]
  have X1 : W.cell? ⟨X, 1, none⟩ = some (.int .i64 (-1)) := by rw [hW, ← hX]; simp [go_sem]
  have X2 : W.cell? ⟨X, 2, none⟩ = some (.int .i64 i) := by rw [hW, ← hX]; simp [go_sem]
  have aX1 : X ≠ Nb := by omega
  have aX2 : X ≠ Lb := by omega
  have aNL := hc0.aNL
  have aCN := hc0.aCN
  have aCL := hc0.aCL
  have aX3 : X < W.heap.size := by rw [hW, ← hX]; simp
  rw [hX]
  have HC0 := Lib.hid hc0
  have HO0 := Lib.hid ho0
  clear hW k0 x0 x1 x2 q1 q2 hX C1 hc0 ho0
  have g0 : (0 : Int) ≤ (b : Int) := by omega
  have g1 : (b : Int) < (n : Int) := by omega
  have k0 := HC0.out.c0
  have k1 := HC0.out.c1
  have f1 := HC0.out.fzn
  have f2 := HC0.out.fzl
  obtain ⟨vn0x, cn0x⟩ : ∃ v, W.cell? ⟨Nb, x * 3, none⟩ = some (.int .i64 v) := ⟨_, HC0.out.n0 x hx⟩
  obtain ⟨vn1x, cn1x⟩ : ∃ v, W.cell? ⟨Nb, x * 3 + 1, none⟩ = some (.int .i64 v) := ⟨_, HC0.out.n1 x hx⟩
  obtain ⟨vn2x, cn2x⟩ : ∃ v, W.cell? ⟨Nb, x * 3 + 2, none⟩ = some (.int .i64 v) := ⟨_, HC0.out.n2 x hx⟩
  obtain ⟨vl0i, cl0i⟩ : ∃ v, W.cell? ⟨Lb, i * 3, none⟩ = some (.int .i64 v) := ⟨_, HC0.out.l0 i hi⟩
  obtain ⟨vl1i, cl1i⟩ : ∃ v, W.cell? ⟨Lb, i * 3 + 1, none⟩ = some (.int .i64 v) := ⟨_, HC0.out.l1 i hi⟩
  obtain ⟨vn1b, cn1b⟩ : ∃ v, W.cell? ⟨Nb, b * 3 + 1, none⟩ = some (.int .i64 v) := ⟨_, HC0.out.n1 b hbn⟩
  have cl2 := HC0.out.l2 i hi
  try dsimp only at cl2
  go_region
  go_wp2_with fail
  go_region
  refine post_name ?_
  intro W1 hW1
  have hc1 : ChainAt W1 C Nb Lb n l { bk := S.bk, nx := upd (S.nx) b (-1), ls := S.ls, fb := S.fb, fn := S.fn, fl := S.fl } := by
    rw [hW1]
    repeat (refine ChainAt.drew ?_)
    exact (HC0.out.set_n1 b (-1) hbn)
  have ho1 : Off Nb Lb w W1 := by
    rw [hW1]
    repeat (refine Off.drew ?_)
    exact (HO0.out.set (p := ⟨Nb, b * 3 + 1, none⟩) (Or.inl rfl) (.int .i64 (-1)))
  have hd1 : Off Nb Lb W W1 := by
    rw [hW1]
    repeat (refine Off.drew ?_)
    exact ((Off.refl Nb Lb W).set (p := ⟨Nb, b * 3 + 1, none⟩) (Or.inl rfl) (.int .i64 (-1)))
  have X0 := (hd1.cell (a := ⟨X, 0, none⟩) aX1 aX2 aX3).trans X0
  have X1 := (hd1.cell (a := ⟨X, 1, none⟩) aX1 aX2 aX3).trans X1
  have X2 := (hd1.cell (a := ⟨X, 2, none⟩) aX1 aX2 aX3).trans X2
  have aX3 := Nat.lt_of_lt_of_le aX3 hd1.size
  have HC1 := Lib.hid hc1
  have HO1 := Lib.hid ho1
  clear hW1 hc1 ho1 hd1 k0 k1 f1 f2 cn0x cn1x cn2x cl0i cl1i cn1b cl2
  have k0 := HC1.out.c0
  have k1 := HC1.out.c1
  have f1 := HC1.out.fzn
  have f2 := HC1.out.fzl
  obtain ⟨vn0x, cn0x⟩ : ∃ v, W1.cell? ⟨Nb, x * 3, none⟩ = some (.int .i64 v) := ⟨_, HC1.out.n0 x hx⟩
  obtain ⟨vn1x, cn1x⟩ : ∃ v, W1.cell? ⟨Nb, x * 3 + 1, none⟩ = some (.int .i64 v) := ⟨_, HC1.out.n1 x hx⟩
  obtain ⟨vn2x, cn2x⟩ : ∃ v, W1.cell? ⟨Nb, x * 3 + 2, none⟩ = some (.int .i64 v) := ⟨_, HC1.out.n2 x hx⟩
  obtain ⟨vl0i, cl0i⟩ : ∃ v, W1.cell? ⟨Lb, i * 3, none⟩ = some (.int .i64 v) := ⟨_, HC1.out.l0 i hi⟩
  obtain ⟨vl1i, cl1i⟩ : ∃ v, W1.cell? ⟨Lb, i * 3 + 1, none⟩ = some (.int .i64 v) := ⟨_, HC1.out.l1 i hi⟩
  obtain ⟨vn1b, cn1b⟩ : ∃ v, W1.cell? ⟨Nb, b * 3 + 1, none⟩ = some (.int .i64 v) := ⟨_, HC1.out.n1 b hbn⟩
  have cl2 := HC1.out.l2 i hi
  try dsimp only at cl2
  go_wp2_with fail
  go_ret
  refine ⟨rfl, ?_, (((((HO1.out.set (p := ⟨Lb, i * 3, none⟩) (Or.inr rfl) (.int .i64 (b : Int))).set (p := ⟨Lb, i * 3 + 2, none⟩) (Or.inr rfl) (.int .i64 (S.fl i - 1))).set (p := ⟨Nb, x * 3, none⟩) (Or.inl rfl) (.int .i64 (-1))).set (p := ⟨Nb, x * 3 + 1, none⟩) (Or.inl rfl) (.int .i64 (-1))).set (p := ⟨Nb, x * 3 + 2, none⟩) (Or.inl rfl) (.int .i64 (-1)))⟩
  have e : S.drop x = { bk := upd (S.bk) x (-1), nx := upd (upd (S.nx) b (-1)) x (-1), ls := upd (S.ls) x (-1), fb := upd (S.fb) i (b : Int), fn := S.fn, fl := upd (S.fl) i (S.fl i - 1) } := by
    unfold CS.drop
    rw [hb, hf, hs]
    simp
  rw [e]

  exact (((((HC1.out.set_l0 i (b : Int) hi).set_l2 i (S.fl i - 1) hi).set_n0 x (-1) hx).set_n1 x (-1) hx).set_n2 x (-1) hx)

set_option maxHeartbeats 2000000 in
theorem chain_Drop_f (C Nb Lb n l : Nat) (S : CS) (x : Nat) (w : World) (h : ChainAt w C Nb Lb n l S) (hx : x < n) (i : Nat) (hs : S.ls x = (i : Int)) (hi : i < l) (hb : S.bk x = -1) (f : Nat) (hf : S.nx x = (f : Int)) (hfn : f < n) (hl : -1048576 ≤ S.fl i ∧ S.fl i ≤ 1048576) :
    Calls Try.prog 21 #[.pointer (some ⟨C, 0, none⟩), .int .i64 x] w fun e w' => e = .returned (.bool true) ∧ ChainAt w' C Nb Lb n l (S.drop x) ∧ Off Nb Lb w w' := by
  have c1 := fun W => chain_Of_yes C Nb Lb n l S x W
  rw [hs] at c1
  have C1 := Lib.hid c1
  have H := Lib.hid h
  have k0 := h.c0
  have x0 := h.n0 x hx
  have x1 := h.n1 x hx
  have x2 := h.n2 x hx
  rw [hs] at x2
  rw [hb] at x0
  rw [hf] at x1
  have h0 : (0 : Int) ≤ (x : Int) := by omega
  have h1 : (x : Int) < (n : Int) := by omega
  have h2 : (0 : Int) ≤ (i : Int) := by omega
  have h3 : (i : Int) < (l : Int) := by omega
  have q1 := h.hN
  have q2 := h.hL
  clear c1 h
  go_enter Try.func21, Try.ntmps21
  go_wp2_with fail
  refine (C1.out _ H.out hx).mono ?_
  rintro e w1 ⟨rfl, rfl⟩
  go_wp2_with fail
  refine region_name ?_
  intro W hW
  have hc0 : ChainAt W C Nb Lb n l S := by rw [hW]; exact H.out.keep (bel_alloc (Below.refl _ _) _)
  have ho0 : Off Nb Lb w W := by rw [hW]; exact (Off.refl Nb Lb w).alloc _
  obtain ⟨X, hX⟩ : ∃ X, w.heap.size = X := ⟨_, rfl⟩
  have X0 : W.cell? ⟨X, 0, none⟩ = some (.int .i64 (-1)) := by rw [hW, ← hX]; simp [go_sem]
  have X1 : W.cell? ⟨X, 1, none⟩ = some (.int .i64 (f : Int)) := by rw [hW, ← hX]; simp [go_sem]
  have X2 : W.cell? ⟨X, 2, none⟩ = some (.int .i64 i) := by rw [hW, ← hX]; simp [go_sem]
  have aX1 : X ≠ Nb := by omega
  have aX2 : X ≠ Lb := by omega
  have aNL := hc0.aNL
  have aCN := hc0.aCN
  have aCL := hc0.aCL
  have aX3 : X < W.heap.size := by rw [hW, ← hX]; simp
  rw [hX]
  have HC0 := Lib.hid hc0
  have HO0 := Lib.hid ho0
  clear hW k0 x0 x1 x2 q1 q2 hX C1 hc0 ho0
  have g2 : (0 : Int) ≤ (f : Int) := by omega
  have g3 : (f : Int) < (n : Int) := by omega
  have k0 := HC0.out.c0
  have k1 := HC0.out.c1
  have f1 := HC0.out.fzn
  have f2 := HC0.out.fzl
  obtain ⟨vn0x, cn0x⟩ : ∃ v, W.cell? ⟨Nb, x * 3, none⟩ = some (.int .i64 v) := ⟨_, HC0.out.n0 x hx⟩
  obtain ⟨vn1x, cn1x⟩ : ∃ v, W.cell? ⟨Nb, x * 3 + 1, none⟩ = some (.int .i64 v) := ⟨_, HC0.out.n1 x hx⟩
  obtain ⟨vn2x, cn2x⟩ : ∃ v, W.cell? ⟨Nb, x * 3 + 2, none⟩ = some (.int .i64 v) := ⟨_, HC0.out.n2 x hx⟩
  obtain ⟨vl0i, cl0i⟩ : ∃ v, W.cell? ⟨Lb, i * 3, none⟩ = some (.int .i64 v) := ⟨_, HC0.out.l0 i hi⟩
  obtain ⟨vl1i, cl1i⟩ : ∃ v, W.cell? ⟨Lb, i * 3 + 1, none⟩ = some (.int .i64 v) := ⟨_, HC0.out.l1 i hi⟩
  obtain ⟨vn0f, cn0f⟩ : ∃ v, W.cell? ⟨Nb, f * 3, none⟩ = some (.int .i64 v) := ⟨_, HC0.out.n0 f hfn⟩
  have cl2 := HC0.out.l2 i hi
  try dsimp only at cl2
  go_region
  go_wp2_with fail
  refine region_name ?_
  intro W1 hW1
  have hc1 : ChainAt W1 C Nb Lb n l { bk := S.bk, nx := S.nx, ls := S.ls, fb := S.fb, fn := upd (S.fn) i (f : Int), fl := S.fl } := by
    rw [hW1]
    repeat (refine ChainAt.drew ?_)
    exact (HC0.out.set_l1 i (f : Int) hi)
  have ho1 : Off Nb Lb w W1 := by
    rw [hW1]
    repeat (refine Off.drew ?_)
    exact (HO0.out.set (p := ⟨Lb, i * 3 + 1, none⟩) (Or.inr rfl) (.int .i64 (f : Int)))
  have hd1 : Off Nb Lb W W1 := by
    rw [hW1]
    repeat (refine Off.drew ?_)
    exact ((Off.refl Nb Lb W).set (p := ⟨Lb, i * 3 + 1, none⟩) (Or.inr rfl) (.int .i64 (f : Int)))
  have X0 := (hd1.cell (a := ⟨X, 0, none⟩) aX1 aX2 aX3).trans X0
  have X1 := (hd1.cell (a := ⟨X, 1, none⟩) aX1 aX2 aX3).trans X1
  have X2 := (hd1.cell (a := ⟨X, 2, none⟩) aX1 aX2 aX3).trans X2
  have aX3 := Nat.lt_of_lt_of_le aX3 hd1.size
  have HC1 := Lib.hid hc1
  have HO1 := Lib.hid ho1
  clear hW1 hc1 ho1 hd1 k0 k1 f1 f2 cn0x cn1x cn2x cl0i cl1i cn0f cl2
  have k0 := HC1.out.c0
  have k1 := HC1.out.c1
  have f1 := HC1.out.fzn
  have f2 := HC1.out.fzl
  obtain ⟨vn0x, cn0x⟩ : ∃ v, W1.cell? ⟨Nb, x * 3, none⟩ = some (.int .i64 v) := ⟨_, HC1.out.n0 x hx⟩
  obtain ⟨vn1x, cn1x⟩ : ∃ v, W1.cell? ⟨Nb, x * 3 + 1, none⟩ = some (.int .i64 v) := ⟨_, HC1.out.n1 x hx⟩
  obtain ⟨vn2x, cn2x⟩ : ∃ v, W1.cell? ⟨Nb, x * 3 + 2, none⟩ = some (.int .i64 v) := ⟨_, HC1.out.n2 x hx⟩
  obtain ⟨vl0i, cl0i⟩ : ∃ v, W1.cell? ⟨Lb, i * 3, none⟩ = some (.int .i64 v) := ⟨_, HC1.out.l0 i hi⟩
  obtain ⟨vl1i, cl1i⟩ : ∃ v, W1.cell? ⟨Lb, i * 3 + 1, none⟩ = some (.int .i64 v) := ⟨_, HC1.out.l1 i hi⟩
  obtain ⟨vn0f, cn0f⟩ : ∃ v, W1.cell? ⟨Nb, f * 3, none⟩ = some (.int .i64 v) := ⟨_, HC1.out.n0 f hfn⟩
  have cl2 := HC1.out.l2 i hi
  try dsimp only at cl2
  go_region
  refine post_name ?_
  intro W2 hW2
  have hc2 : ChainAt W2 C Nb Lb n l { bk := upd (S.bk) f (-1), nx := S.nx, ls := S.ls, fb := S.fb, fn := upd (S.fn) i (f : Int), fl := S.fl } := by
    rw [hW2]
    repeat (refine ChainAt.drew ?_)
    exact (HC1.out.set_n0 f (-1) hfn)
  have ho2 : Off Nb Lb w W2 := by
    rw [hW2]
    repeat (refine Off.drew ?_)
    exact (HO1.out.set (p := ⟨Nb, f * 3, none⟩) (Or.inl rfl) (.int .i64 (-1)))
  have hd2 : Off Nb Lb W1 W2 := by
    rw [hW2]
    repeat (refine Off.drew ?_)
    exact ((Off.refl Nb Lb W1).set (p := ⟨Nb, f * 3, none⟩) (Or.inl rfl) (.int .i64 (-1)))
  have X0 := (hd2.cell (a := ⟨X, 0, none⟩) aX1 aX2 aX3).trans X0
  have X1 := (hd2.cell (a := ⟨X, 1, none⟩) aX1 aX2 aX3).trans X1
  have X2 := (hd2.cell (a := ⟨X, 2, none⟩) aX1 aX2 aX3).trans X2
  have aX3 := Nat.lt_of_lt_of_le aX3 hd2.size
  have HC2 := Lib.hid hc2
  have HO2 := Lib.hid ho2
  clear hW2 hc2 ho2 hd2 k0 k1 f1 f2 cn0x cn1x cn2x cl0i cl1i cn0f cl2
  have k0 := HC2.out.c0
  have k1 := HC2.out.c1
  have f1 := HC2.out.fzn
  have f2 := HC2.out.fzl
  obtain ⟨vn0x, cn0x⟩ : ∃ v, W2.cell? ⟨Nb, x * 3, none⟩ = some (.int .i64 v) := ⟨_, HC2.out.n0 x hx⟩
  obtain ⟨vn1x, cn1x⟩ : ∃ v, W2.cell? ⟨Nb, x * 3 + 1, none⟩ = some (.int .i64 v) := ⟨_, HC2.out.n1 x hx⟩
  obtain ⟨vn2x, cn2x⟩ : ∃ v, W2.cell? ⟨Nb, x * 3 + 2, none⟩ = some (.int .i64 v) := ⟨_, HC2.out.n2 x hx⟩
  obtain ⟨vl0i, cl0i⟩ : ∃ v, W2.cell? ⟨Lb, i * 3, none⟩ = some (.int .i64 v) := ⟨_, HC2.out.l0 i hi⟩
  obtain ⟨vl1i, cl1i⟩ : ∃ v, W2.cell? ⟨Lb, i * 3 + 1, none⟩ = some (.int .i64 v) := ⟨_, HC2.out.l1 i hi⟩
  obtain ⟨vn0f, cn0f⟩ : ∃ v, W2.cell? ⟨Nb, f * 3, none⟩ = some (.int .i64 v) := ⟨_, HC2.out.n0 f hfn⟩
  have cl2 := HC2.out.l2 i hi
  try dsimp only at cl2
  go_wp2_with fail
  go_ret
  refine ⟨rfl, ?_, ((((HO2.out.set (p := ⟨Lb, i * 3 + 2, none⟩) (Or.inr rfl) (.int .i64 (S.fl i - 1))).set (p := ⟨Nb, x * 3, none⟩) (Or.inl rfl) (.int .i64 (-1))).set (p := ⟨Nb, x * 3 + 1, none⟩) (Or.inl rfl) (.int .i64 (-1))).set (p := ⟨Nb, x * 3 + 2, none⟩) (Or.inl rfl) (.int .i64 (-1)))⟩
  have e : S.drop x = { bk := upd (upd (S.bk) f (-1)) x (-1), nx := upd (S.nx) x (-1), ls := upd (S.ls) x (-1), fb := S.fb, fn := upd (S.fn) i (f : Int), fl := upd (S.fl) i (S.fl i - 1) } := by
    unfold CS.drop
    rw [hb, hf, hs]
    simp
  rw [e]

  exact ((((HC2.out.set_l2 i (S.fl i - 1) hi).set_n0 x (-1) hx).set_n1 x (-1) hx).set_n2 x (-1) hx)

end Go.Proofs.Ytdhcmnbajkpjiaa
/-
  Chain: the contract of Drop, where a list has but one node.
-/
namespace Go.Proofs.Ytdhcmnbajkpjiaa
open Go.RowKit
set_option linter.unusedVariables false
attribute [local go_sem] drewN_alloc drewN_setCell

set_option maxHeartbeats 2000000 in
theorem chain_Drop_o (C Nb Lb n l : Nat) (S : CS) (x : Nat) (w : World) (h : ChainAt w C Nb Lb n l S) (hx : x < n) (i : Nat) (hs : S.ls x = (i : Int)) (hi : i < l) (hb : S.bk x = -1) (hf : S.nx x = -1) (hl : -1048576 ≤ S.fl i ∧ S.fl i ≤ 1048576) :
    Calls Try.prog 21 #[.pointer (some ⟨C, 0, none⟩), .int .i64 x] w fun e w' => e = .returned (.bool true) ∧ ChainAt w' C Nb Lb n l (S.drop x) ∧ Off Nb Lb w w' := by
  have c1 := fun W => chain_Of_yes C Nb Lb n l S x W
  rw [hs] at c1
  have C1 := Lib.hid c1
  have H := Lib.hid h
  have k0 := h.c0
  have x0 := h.n0 x hx
  have x1 := h.n1 x hx
  have x2 := h.n2 x hx
  rw [hs] at x2
  rw [hb] at x0
  rw [hf] at x1
  have h0 : (0 : Int) ≤ (x : Int) := by omega
  have h1 : (x : Int) < (n : Int) := by omega
  have h2 : (0 : Int) ≤ (i : Int) := by omega
  have h3 : (i : Int) < (l : Int) := by omega
  have q1 := h.hN
  have q2 := h.hL
  clear c1 h
  go_enter Try.func21, Try.ntmps21
  go_wp2_with fail
  refine (C1.out _ H.out hx).mono ?_
  rintro e w1 ⟨rfl, rfl⟩
  go_wp2_with fail
  refine region_name ?_
  intro W hW
  have hc0 : ChainAt W C Nb Lb n l S := by rw [hW]; exact H.out.keep (bel_alloc (Below.refl _ _) _)
  have ho0 : Off Nb Lb w W := by rw [hW]; exact (Off.refl Nb Lb w).alloc _
  obtain ⟨X, hX⟩ : ∃ X, w.heap.size = X := ⟨_, rfl⟩
  have X0 : W.cell? ⟨X, 0, none⟩ = some (.int .i64 (-1)) := by rw [hW, ← hX]; simp [go_sem]
  have X1 : W.cell? ⟨X, 1, none⟩ = some (.int .i64 (-1)) := by rw [hW, ← hX]; simp [go_sem]
  have X2 : W.cell? ⟨X, 2, none⟩ = some (.int .i64 i) := by rw [hW, ← hX]; simp [go_sem]
  have aX1 : X ≠ Nb := by omega
  have aX2 : X ≠ Lb := by omega
  have aNL := hc0.aNL
  have aCN := hc0.aCN
  have aCL := hc0.aCL
  have aX3 : X < W.heap.size := by rw [hW, ← hX]; simp
  rw [hX]
  have HC0 := Lib.hid hc0
  have HO0 := Lib.hid ho0
  clear hW k0 x0 x1 x2 q1 q2 hX C1 hc0 ho0
  have k0 := HC0.out.c0
  have k1 := HC0.out.c1
  have f1 := HC0.out.fzn
  have f2 := HC0.out.fzl
  obtain ⟨vn0x, cn0x⟩ : ∃ v, W.cell? ⟨Nb, x * 3, none⟩ = some (.int .i64 v) := ⟨_, HC0.out.n0 x hx⟩
  obtain ⟨vn1x, cn1x⟩ : ∃ v, W.cell? ⟨Nb, x * 3 + 1, none⟩ = some (.int .i64 v) := ⟨_, HC0.out.n1 x hx⟩
  obtain ⟨vn2x, cn2x⟩ : ∃ v, W.cell? ⟨Nb, x * 3 + 2, none⟩ = some (.int .i64 v) := ⟨_, HC0.out.n2 x hx⟩
  obtain ⟨vl0i, cl0i⟩ : ∃ v, W.cell? ⟨Lb, i * 3, none⟩ = some (.int .i64 v) := ⟨_, HC0.out.l0 i hi⟩
  obtain ⟨vl1i, cl1i⟩ : ∃ v, W.cell? ⟨Lb, i * 3 + 1, none⟩ = some (.int .i64 v) := ⟨_, HC0.out.l1 i hi⟩
  have cl2 := HC0.out.l2 i hi
  try dsimp only at cl2
  go_region
  go_wp2_with fail
  go_ret
  refine ⟨rfl, ?_, ?_⟩
  rotate_left
  · repeat (with_reducible refine Off.drew ?_)
    exact ((((((HO0.out.set (p := ⟨Lb, i * 3 + 1, none⟩) (Or.inr rfl) (.int .i64 (-1))).set (p := ⟨Lb, i * 3, none⟩) (Or.inr rfl) (.int .i64 (-1))).set (p := ⟨Lb, i * 3 + 2, none⟩) (Or.inr rfl) (.int .i64 (S.fl i - 1))).set (p := ⟨Nb, x * 3, none⟩) (Or.inl rfl) (.int .i64 (-1))).set (p := ⟨Nb, x * 3 + 1, none⟩) (Or.inl rfl) (.int .i64 (-1))).set (p := ⟨Nb, x * 3 + 2, none⟩) (Or.inl rfl) (.int .i64 (-1)))
  have e : S.drop x = { bk := upd (S.bk) x (-1), nx := upd (S.nx) x (-1), ls := upd (S.ls) x (-1), fb := upd (S.fb) i (-1), fn := upd (S.fn) i (-1), fl := upd (S.fl) i (S.fl i - 1) } := by
    unfold CS.drop
    rw [hb, hf, hs]
    simp
  rw [e]
  repeat (with_reducible refine ChainAt.drew ?_)
  exact ((((((HC0.out.set_l1 i (-1) hi).set_l0 i (-1) hi).set_l2 i (S.fl i - 1) hi).set_n0 x (-1) hx).set_n1 x (-1) hx).set_n2 x (-1) hx)

end Go.Proofs.Ytdhcmnbajkpjiaa
/-
  Chain, as rows in memory: the contracts of the readers, of Add and of Drop.
-/
namespace Go.Proofs.Ytdhcmnbajkpjiaa
open Go.RowKit
set_option linter.unusedVariables false

/-- A chain in memory whose lists have these rows. -/
def ChainRows (w : World) (C Nb Lb n l : Nat) (R : Nat → List Nat) : Prop := ∃ S, ChainAt w C Nb Lb n l S ∧ PC.Inv n l S R
theorem ChainRows.keep {w w' : World} {C Nb Lb n l : Nat} {R : Nat → List Nat} (h : ChainRows w C Nb Lb n l R) (hb : Below w.heap.size w w') : ChainRows w' C Nb Lb n l R := by
  obtain ⟨S, h1, h2⟩ := h
  exact ⟨S, h1.keep hb, h2⟩
theorem pcast {P : Program} {f : FuncId} {args : Array Value} {w : World} {K K' : Ending → World → Prop} (h : Calls P f args w K) (e : K = K') : Calls P f args w K' := e ▸ h

section
variable {w : World} {C Nb Lb n l : Nat} {R : Nat → List Nat}

theorem chain_Of (x : Int) (h : ChainRows w C Nb Lb n l R) :
    Calls Try.prog 23 #[.pointer (some ⟨C, 0, none⟩), .int .i64 x] w fun e w' => e = .returned (.int .i64 (PC.ofV l R x)) ∧ w = w' := by
  obtain ⟨S, h, hi⟩ := h
  by_cases hx : x < 0 ∨ (n : Int) ≤ x
  · rw [PC.ofV_none (hi.far hx)]
    exact chain_Of_no C Nb Lb n l S x w h hx
  · obtain ⟨x', rfl⟩ : ∃ x' : Nat, x = x' := ⟨x.toNat, by omega⟩
    rw [← hi.ofV (x := x') (by omega)]
    exact chain_Of_yes C Nb Lb n l S x' w h (by omega)

theorem chain_Next (x : Int) (h : ChainRows w C Nb Lb n l R) :
    Calls Try.prog 30 #[.pointer (some ⟨C, 0, none⟩), .int .i64 x] w fun e w' => e = .returned (.int .i64 (PC.nextV l R x)) ∧ w = w' := by
  obtain ⟨S, h, hi⟩ := h
  by_cases hx : x < 0 ∨ (n : Int) ≤ x
  · rw [PC.nextV_none (hi.far hx)]
    exact chain_Next_no C Nb Lb n l S x w h hx
  · obtain ⟨x', rfl⟩ : ∃ x' : Nat, x = x' := ⟨x.toNat, by omega⟩
    rw [← hi.nextV (x := x') (by omega)]
    exact chain_Next_yes C Nb Lb n l S x' w h (by omega)

theorem chain_Back (x : Int) (h : ChainRows w C Nb Lb n l R) :
    Calls Try.prog 27 #[.pointer (some ⟨C, 0, none⟩), .int .i64 x] w fun e w' => e = .returned (.int .i64 (PC.backV l R x)) ∧ w = w' := by
  obtain ⟨S, h, hi⟩ := h
  by_cases hx : x < 0 ∨ (n : Int) ≤ x
  · rw [PC.backV_none (hi.far hx)]
    exact chain_Back_no C Nb Lb n l S x w h hx
  · obtain ⟨x', rfl⟩ : ∃ x' : Nat, x = x' := ⟨x.toNat, by omega⟩
    rw [← hi.backV (x := x') (by omega)]
    exact chain_Back_yes C Nb Lb n l S x' w h (by omega)

theorem chain_First (x : Int) (h : ChainRows w C Nb Lb n l R) :
    Calls Try.prog 29 #[.pointer (some ⟨C, 0, none⟩), .int .i64 x] w fun e w' => e = .returned (.int .i64 (PC.headD (PC.rowV l R x))) ∧ w = w' := by
  obtain ⟨S, h, hi⟩ := h
  by_cases hx : x < 0 ∨ (l : Int) ≤ x
  · rw [PC.rowV_out hx]
    exact chain_First_no C Nb Lb n l S x w h hx
  · obtain ⟨x', rfl⟩ : ∃ x' : Nat, x = x' := ⟨x.toNat, by omega⟩
    rw [PC.rowV_in (by omega), ← hi.fn x' (by omega)]
    exact chain_First_yes C Nb Lb n l S x' w h (by omega)

theorem chain_Last (x : Int) (h : ChainRows w C Nb Lb n l R) :
    Calls Try.prog 22 #[.pointer (some ⟨C, 0, none⟩), .int .i64 x] w fun e w' => e = .returned (.int .i64 (PC.lastD (PC.rowV l R x))) ∧ w = w' := by
  obtain ⟨S, h, hi⟩ := h
  by_cases hx : x < 0 ∨ (l : Int) ≤ x
  · rw [PC.rowV_out hx]
    exact chain_Last_no C Nb Lb n l S x w h hx
  · obtain ⟨x', rfl⟩ : ∃ x' : Nat, x = x' := ⟨x.toNat, by omega⟩
    rw [PC.rowV_in (by omega), ← hi.fb x' (by omega)]
    exact chain_Last_yes C Nb Lb n l S x' w h (by omega)

theorem chain_Len (x : Int) (h : ChainRows w C Nb Lb n l R) :
    Calls Try.prog 28 #[.pointer (some ⟨C, 0, none⟩), .int .i64 x] w fun e w' => e = .returned (.int .i64 (((PC.rowV l R x).length : Nat))) ∧ w = w' := by
  obtain ⟨S, h, hi⟩ := h
  by_cases hx : x < 0 ∨ (l : Int) ≤ x
  · rw [PC.rowV_out hx]
    exact chain_Len_no C Nb Lb n l S x w h hx
  · obtain ⟨x', rfl⟩ : ∃ x' : Nat, x = x' := ⟨x.toNat, by omega⟩
    rw [PC.rowV_in (by omega), ← hi.fl x' (by omega)]
    exact chain_Len_yes C Nb Lb n l S x' w h (by omega)

theorem chain_Add (i x : Int) (h : ChainRows w C Nb Lb n l R) :
    Calls Try.prog 19 #[.pointer (some ⟨C, 0, none⟩), .int .i64 i, .int .i64 x] w fun e w' => e = .returned (.bool (PC.addB n l R i x)) ∧ ChainRows w' C Nb Lb n l (PC.addR n l R i x) ∧ Off Nb Lb w w' := by
  obtain ⟨S, h, hi⟩ := h
  by_cases hb : PC.addB n l R i x = true
  · obtain ⟨i', x', rfl, rfl, h1, h2, h3, h4⟩ := hi.addV hb
    rw [hb]
    have hfl := hi.fl i' h1
    have hlen := hi.len h1
    have hbn := h.bn
    have hfb := hi.fb i' h1
    rcases PC.lastD_cases (R i') with ⟨e1, e2⟩ | ⟨c, y, e1, e2⟩
    · exact (chain_Add_first C Nb Lb n l S x' i' w h h2 h1 h3 (hfb.trans e2) (by omega)).mono fun e w' ⟨a, b, c⟩ => ⟨a, ⟨_, b, h4⟩, c⟩
    · exact (chain_Add_far C Nb Lb n l S x' i' w h h2 h1 h3 y (hfb.trans e2) (hi.lt i' h1 y (by rw [e1]; simp)) (by omega)).mono fun e w' ⟨a, b, c⟩ => ⟨a, ⟨_, b, h4⟩, c⟩
  · have hb' : PC.addB n l R i x = false := by simpa using hb
    rw [PC.addR_no hb', hb']
    have hb2 := hb'
    unfold PC.addB at hb2
    simp only [decide_eq_false_iff_not] at hb2
    have fin : ∀ (e : Ending) (w' : World), (e = .returned (.bool false) ∧ w = w') → (e = .returned (.bool false) ∧ ChainRows w' C Nb Lb n l R ∧ Off Nb Lb w w') := by
      rintro e w' ⟨rfl, rfl⟩
      exact ⟨rfl, ⟨S, h, hi⟩, Off.refl _ _ _⟩
    by_cases g1 : i < 0 ∨ (l : Int) ≤ i
    · exact (chain_Add_nolist C Nb Lb n l S x i w h g1).mono fin
    · obtain ⟨i', rfl⟩ : ∃ i' : Nat, i = i' := ⟨i.toNat, by omega⟩
      by_cases g2 : x < 0 ∨ (n : Int) ≤ x
      · exact (chain_Add_nonode C Nb Lb n l S x i' w h (by omega) g2).mono fin
      · obtain ⟨x', rfl⟩ : ∃ x' : Nat, x = x' := ⟨x.toNat, by omega⟩
        exact (chain_Add_inlist C Nb Lb n l S x' i' w h (by omega) (by omega) (by rw [hi.ofV (by omega)]; omega)).mono fin

theorem chain_Drop_no (x : Int) (h : ChainRows w C Nb Lb n l R) (hx : PC.ofV l R x < 0) :
    Calls Try.prog 21 #[.pointer (some ⟨C, 0, none⟩), .int .i64 x] w fun e w' => e = .returned (.bool false) ∧ w = w' := by
  have c := fun W => chain_Of (w := W) (C := C) (Nb := Nb) (Lb := Lb) (n := n) (l := l) (R := R) x
  have K := Lib.hid c
  have H := Lib.hid h
  generalize PC.ofV l R x = v at *
  clear c h
  go_enter Try.func21, Try.ntmps21
  go_wp2_with fail
  refine (K.out _ H.out).mono ?_
  rintro e w1 ⟨rfl, rfl⟩
  go_wp2_with fail
  go_ret
  exact ⟨rfl, rfl⟩

theorem chain_Drop (x : Int) (h : ChainRows w C Nb Lb n l R) :
    Calls Try.prog 21 #[.pointer (some ⟨C, 0, none⟩), .int .i64 x] w fun e w' => e = .returned (.bool (PC.dropB l R x)) ∧ ChainRows w' C Nb Lb n l (PC.dropR l R x) ∧ Off Nb Lb w w' := by
  by_cases hb : PC.dropB l R x = true
  · obtain ⟨S, h, hi⟩ := h
    obtain ⟨x', i, rfl, h1, h2, h3, h4, h5⟩ := hi.dropV hb
    rw [hb]
    have hfl := hi.fl i h2
    have hlen := hi.len h2
    have hbn := h.bn
    have hs := PC.split_idx h4
    have kb := hi.bk i h2 x' _ _ hs
    have kn := hi.nx i h2 x' _ _ hs
    have fin : ∀ (e : Ending) (w' : World), (e = .returned (.bool true) ∧ ChainAt w' C Nb Lb n l (S.drop x') ∧ Off Nb Lb w w') → (e = .returned (.bool true) ∧ ChainRows w' C Nb Lb n l (PC.dropR l R x') ∧ Off Nb Lb w w') :=
      fun e w' ⟨a, b, c⟩ => ⟨a, ⟨_, b, h5⟩, c⟩
    rcases PC.lastD_cases ((R i).take ((R i).idxOf x')) with ⟨e1, e2⟩ | ⟨c, y, e1, e2⟩
    · rcases PC.headD_cases ((R i).drop ((R i).idxOf x' + 1)) with ⟨f1, f2⟩ | ⟨d, z, f1, f2⟩
      · exact (chain_Drop_o C Nb Lb n l S x' w h h1 i h3 h2 (kb.trans e2) (kn.trans f2) (by omega)).mono fin
      · exact (chain_Drop_f C Nb Lb n l S x' w h h1 i h3 h2 (kb.trans e2) z (kn.trans f2) (hi.lt i h2 z (List.mem_of_mem_drop (i := (R i).idxOf x' + 1) (by rw [f1]; simp))) (by omega)).mono fin
    · have hy := hi.lt i h2 y (List.mem_of_mem_take (i := (R i).idxOf x') (by rw [e1]; simp))
      rcases PC.headD_cases ((R i).drop ((R i).idxOf x' + 1)) with ⟨f1, f2⟩ | ⟨d, z, f1, f2⟩
      · exact (chain_Drop_b C Nb Lb n l S x' w h h1 i h3 h2 y (kb.trans e2) hy (kn.trans f2) (by omega)).mono fin
      · exact (chain_Drop_bf C Nb Lb n l S x' w h h1 i h3 h2 y (kb.trans e2) hy z (kn.trans f2) (hi.lt i h2 z (List.mem_of_mem_drop (i := (R i).idxOf x' + 1) (by rw [f1]; simp))) (by omega)).mono fin
  · have hb' : PC.dropB l R x = false := by simpa using hb
    rw [PC.dropR_no hb', hb']
    refine (chain_Drop_no x h (by rw [PC.dropB_ofV] at hb'; simpa using hb')).mono ?_
    rintro e w' ⟨rfl, rfl⟩
    exact ⟨rfl, h, Off.refl _ _ _⟩
end

theorem chain_Drop_nil (x : Int) (w : World) :
    Calls Try.prog 21 #[.pointer none, .int .i64 x] w fun e w' => e = .returned (.bool false) ∧ w = w' := by
  go_enter Try.func21, Try.ntmps21
  go_wp2_with fail
  refine (chain_Of_nil x _).mono ?_
  rintro e w1 ⟨rfl, rfl⟩
  go_wp2_with fail
  go_ret
  exact ⟨rfl, rfl⟩
end Go.Proofs.Ytdhcmnbajkpjiaa
/-
  Slices of ints that read as lists; the contract of SameInts.
-/
namespace Go.Proofs.Ytdhcmnbajkpjiaa
open Go.RowKit
set_option linter.unusedVariables false
attribute [local go_sem] drewN_alloc drewN_setCell

/-- The slice value of length n at A reads as xs. -/
def IntsAt (w : World) (A : Option Addr) (n : Nat) (xs : List Int) : Prop :=
  xs.length = n ∧ n ≤ 9223372036854775807 ∧ (0 < n → ∃ b off, A = some ⟨b, off, none⟩ ∧ b < w.heap.size ∧ ∀ i, i < n → w.cell? ⟨b, off + i, none⟩ = some (.int .i64 (xs.getD i 0)))

theorem IntsAt.keep {w w' : World} {A : Option Addr} {n : Nat} {xs : List Int} (h : IntsAt w A n xs) (k : Below w.heap.size w w') : IntsAt w' A n xs :=
  ⟨h.1, h.2.1, fun hn => by
    obtain ⟨b, off, e, hb, hc⟩ := h.2.2 hn
    exact ⟨b, off, e, Nat.lt_of_lt_of_le hb k.size, fun i hi => (k.cell hb).trans (hc i hi)⟩⟩
theorem IntsAt.nil {w : World} {A : Option Addr} : IntsAt w A 0 [] := ⟨rfl, by omega, fun h => absurd h (by omega)⟩

/-- What holds at the head of SameInts' loop. -/
def SameRel (w : World) (n : Nat) (xs ys : List Int) (i : Value) (wr : World) : Prop :=
  ∃ k : Nat, k ≤ n ∧ i = .int .i64 k ∧ (∀ j, j < k → xs.getD j 0 = ys.getD j 0) ∧ Below w.heap.size w wr

theorem list_eq_getD {n : Nat} {xs ys : List Int} (hx : xs.length = n) (hy : ys.length = n) (h : ∀ j, j < n → xs.getD j 0 = ys.getD j 0) : xs = ys := by
  apply List.ext_getElem (by omega)
  intro i h1 h2
  have := h i (by omega)
  simpa [List.getD, h1, h2] using this

theorem base_SameInts_len (A B : Option Addr) (n m c d : Nat) (w : World) (hne : ((n : Int) != (m : Int)) = true) :
    Calls Try.prog 45 #[.slice A n c, .slice B m d] w fun e w' => e = .returned (.bool false) ∧ Below w.heap.size w w' := by
  go_enter Try.func45, Try.ntmps45
  go_wp2
  go_ret
  exact ⟨rfl, (by repeat (first | exact Below.refl _ _ | assumption | refine bel_drew ?_ | refine bel_drewN ?_ _ | refine bel_alloc ?_ _ | refine bel_set ?_ (by first | (dsimp only; omega) | (simp; done) | (simp; omega)) _ | refine bel_trans ?_ (by assumption)))⟩

theorem base_SameInts_nil (A B : Option Addr) (c d : Nat) (w : World) :
    Calls Try.prog 45 #[.slice A 0 c, .slice B 0 d] w fun e w' => e = .returned (.bool true) ∧ Below w.heap.size w w' := by
  go_enter Try.func45, Try.ntmps45
  go_wp2
  refine wp_loop_rounds 1 ?_
  rw [rounds_succ]
  go_wp2
  go_ret
  exact ⟨rfl, (by repeat (first | exact Below.refl _ _ | assumption | refine bel_drew ?_ | refine bel_drewN ?_ _ | refine bel_alloc ?_ _ | refine bel_set ?_ (by first | (dsimp only; omega) | (simp; done) | (simp; omega)) _ | refine bel_trans ?_ (by assumption)))⟩

set_option maxHeartbeats 1000000 in
theorem base_SameInts_some (b off b' off' n c d : Nat) (xs ys : List Int) (w : World) (hn : n ≤ 9223372036854775807) (hx : xs.length = n) (hy : ys.length = n) (hb : b < w.heap.size) (hb' : b' < w.heap.size)
    (hc : ∀ i, i < n → w.cell? ⟨b, off + i, none⟩ = some (.int .i64 (xs.getD i 0))) (hc' : ∀ i, i < n → w.cell? ⟨b', off' + i, none⟩ = some (.int .i64 (ys.getD i 0))) :
    Calls Try.prog 45 #[.slice (some ⟨b, off, none⟩) n c, .slice (some ⟨b', off', none⟩) n d] w fun e w' => e = .returned (.bool (decide (xs = ys))) ∧ Below w.heap.size w w' := by
  have HC := Lib.hid hc
  have HC' := Lib.hid hc'
  have HX := Lib.hid hx
  have HY := Lib.hid hy
  clear hc hc' hx hy
  go_enter Try.func45, Try.ntmps45
  go_wp2
  go_loopw [5] (fun i wr => SameRel w n xs ys i wr) (fun i _ => n - (intOf i).toNat)
  case atStart => exact ⟨0, Nat.zero_le _, rfl, fun j hj => absurd hj (by omega), Below.refl _ _⟩
  case round =>
    obtain ⟨k, hk, rfl, hpre, hbel⟩ := hrel
    have HP := Lib.hid hpre
    clear hpre
    by_cases hlt : (k : Int) < n
    · have x0 := (hbel.cell (p := ⟨b, off + k, none⟩) hb).trans (HC.out k (by omega))
      have y0 := (hbel.cell (p := ⟨b', off' + k, none⟩) hb').trans (HC'.out k (by omega))
      obtain ⟨x, hx⟩ : ∃ x, xs.getD k 0 = x := ⟨_, rfl⟩
      obtain ⟨y, hy⟩ : ∃ y, ys.getD k 0 = y := ⟨_, rfl⟩
      rw [hx] at x0
      rw [hy] at y0
      have HX1 := Lib.hid hx
      have HY1 := Lib.hid hy
      clear hx hy
      have j1 : (0 : Int) ≤ (k : Int) := by omega
      by_cases hxy : x = y
      · have hbq : (x != y) = false := by simpa using hxy
        have HXY := Lib.hid hxy
        clear hxy
        go_wp2_with fail
        go_quiet (fail)
        go_wp2_with fail
        go_roundw
        case rel =>
          refine ⟨k + 1, by omega, by go_num, fun j hj => ?_, (by repeat (first | exact Below.refl _ _ | assumption | refine bel_drew ?_ | refine bel_drewN ?_ _ | refine bel_alloc ?_ _ | refine bel_set ?_ (by first | (dsimp only; omega) | (simp; done) | (simp; omega)) _ | refine bel_trans ?_ (by assumption)))⟩
          by_cases hjk : j = k
          · rw [hjk, HX1.out, HY1.out, HXY.out]
          · exact HP.out j (by omega)
        case measure => simp [intOf]; omega
      · have hbq : (x != y) = true := by simpa using hxy
        have hne : xs ≠ ys := by
          intro h
          apply hxy
          rw [← HX1.out, ← HY1.out, h]
        have HNE := Lib.hid hne
        clear hxy hne
        go_wp2_with fail
        go_quiet (fail)
        go_wp2_with fail
        go_ret
        exact ⟨ret_bool (by simp [HNE.out]), (by repeat (first | exact Below.refl _ _ | assumption | refine bel_drew ?_ | refine bel_drewN ?_ _ | refine bel_alloc ?_ _ | refine bel_set ?_ (by first | (dsimp only; omega) | (simp; done) | (simp; omega)) _ | refine bel_trans ?_ (by assumption)))⟩
    · have hkn : k = n := by omega
      have heq : xs = ys := list_eq_getD HX.out HY.out (fun j hj => HP.out j (by omega))
      have HE := Lib.hid heq
      clear hkn heq
      go_wp2_with fail
      go_ret
      exact ⟨ret_bool (by simp [HE.out]), (by repeat (first | exact Below.refl _ _ | assumption | refine bel_drew ?_ | refine bel_drewN ?_ _ | refine bel_alloc ?_ _ | refine bel_set ?_ (by first | (dsimp only; omega) | (simp; done) | (simp; omega)) _ | refine bel_trans ?_ (by assumption)))⟩

theorem base_SameInts {A B : Option Addr} {n m : Nat} {xs ys : List Int} (c d : Nat) {w : World} (hx : IntsAt w A n xs) (hy : IntsAt w B m ys) :
    Calls Try.prog 45 #[.slice A n c, .slice B m d] w fun e w' => e = .returned (.bool (decide (xs = ys))) ∧ Below w.heap.size w w' := by
  by_cases hnm : n = m
  · subst hnm
    by_cases h0 : n = 0
    · subst h0
      have e1 : xs = [] := List.eq_nil_of_length_eq_zero hx.1
      have e2 : ys = [] := List.eq_nil_of_length_eq_zero hy.1
      subst e1 e2
      exact base_SameInts_nil A B c d w
    · obtain ⟨b, off, rfl, hb, hc⟩ := hx.2.2 (by omega)
      obtain ⟨b', off', rfl, hb', hc'⟩ := hy.2.2 (by omega)
      exact base_SameInts_some b off b' off' n c d xs ys w hx.2.1 hx.1 hy.1 hb hb' hc hc'
  · have hne : xs ≠ ys := by rintro rfl; exact hnm (hx.1.symm.trans hy.1)
    rw [show decide (xs = ys) = false by simpa using hne]
    exact base_SameInts_len A B n m c d w (by simp; omega)
end Go.Proofs.Ytdhcmnbajkpjiaa
/-
  A call's slice of ints, in new memory.
-/
namespace Go.Proofs.Ytdhcmnbajkpjiaa
open Go.RowKit
set_option linter.unusedVariables false

/-- The slice reads as xs, and lies in a block from B on. -/
def IntsFrom (B : Nat) (w : World) (A : Option Addr) (n : Nat) (xs : List Int) : Prop :=
  IntsAt w A n xs ∧ (0 < n → ∃ b off, A = some ⟨b, off, none⟩ ∧ B ≤ b)
theorem IntsFrom.nil {B : Nat} {w : World} {A : Option Addr} : IntsFrom B w A 0 [] := ⟨IntsAt.nil, fun h => absurd h (by omega)⟩
theorem IntsFrom.keep {B : Nat} {w w' : World} {A : Option Addr} {n : Nat} {xs : List Int} (h : IntsFrom B w A n xs) (k : Below w.heap.size w w') : IntsFrom B w' A n xs := ⟨h.1.keep k, h.2⟩
theorem IntsFrom.mono {B B' : Nat} {w : World} {A : Option Addr} {n : Nat} {xs : List Int} (h : IntsFrom B w A n xs) (hB : B' ≤ B) : IntsFrom B' w A n xs :=
  ⟨h.1, fun hn => by obtain ⟨b, off, e, hb⟩ := h.2 hn; exact ⟨b, off, e, by omega⟩⟩

/-- A call's slice result: of new memory, read as a list. -/
def GivesInts (w : World) (xs : List Int) (e : Ending) (w' : World) : Prop :=
  ∃ A n c, e = .returned (.slice A n c) ∧ IntsFrom w.heap.size w' A n xs ∧ Below w.heap.size w w'

theorem ints_of_own {w : World} {base : Nat} {t : TypeId} {v : Value} {n : Nat} {xs : List Int} (h : w.ownsRow base t 1 v n (xs.map (Value.int .i64))) (hn : n ≤ 9223372036854775807) : ∃ A c, v = .slice A n c ∧ IntsFrom base w A n xs := by
  have hl : xs.length = n := by simpa using h.1
  by_cases h0 : 0 < n
  · obtain ⟨g, cap, rfl, hb, hg⟩ := h.form h0
    refine ⟨_, _, rfl, ⟨hl, hn, fun _ => ⟨g, 0, rfl, hg, fun i hi => ?_⟩⟩, fun _ => ⟨g, 0, rfl, hb⟩⟩
    rw [Nat.zero_add, h.cellAt i (by omega)]
    simp [List.getD, show i < xs.length by omega]
  · have hn0 : n = 0 := by omega
    subst hn0
    have hx : xs = [] := List.eq_nil_of_length_eq_zero hl
    subst hx
    rcases h.2 with ⟨rfl, _⟩ | ⟨g, cap, cur, rfl, _, _, _, _, _⟩
    · exact ⟨_, _, rfl, IntsFrom.nil⟩
    · exact ⟨_, _, rfl, IntsFrom.nil⟩
end Go.Proofs.Ytdhcmnbajkpjiaa
/-
  Chain: the contract of List; and what none and a zero chain tell.
-/
namespace Go.Proofs.Ytdhcmnbajkpjiaa
open Go.RowKit
set_option linter.unusedVariables false
attribute [local go_sem] drewN_alloc drewN_setCell

/-- A row of nodes, as ints. -/
def ints (r : List Nat) : List Int := r.map (fun (x : Nat) => (x : Int))
theorem ints_len (r : List Nat) : (ints r).length = r.length := by simp [ints]

theorem chain_List_no (C Nb Lb n l : Nat) (S : CS) (x : Int) (w : World) (h : ChainAt w C Nb Lb n l S) (hx : x < 0 ∨ (l : Int) ≤ x) :
    Calls Try.prog 20 #[.pointer (some ⟨C, 0, none⟩), .int .i64 x] w (GivesInts w []) := by
  have c1 := fun W hW => chain_First_no C Nb Lb n l S x W hW hx
  have C1 := Lib.hid c1
  have H := Lib.hid h
  clear c1 h hx
  go_enter Try.func20, Try.ntmps20
  go_wp2_with fail
  refine (C1.out _ H.out).mono ?_
  rintro e w1 ⟨rfl, rfl⟩
  go_wp2_with fail
  refine wp_loop_rounds 1 ?_
  rw [rounds_succ]
  go_wp2_with fail
  go_ret
  exact ⟨none, 0, 0, rfl, IntsFrom.nil, (by repeat (first | exact Below.refl _ _ | assumption | refine bel_drew ?_ | refine bel_drewN ?_ _ | refine bel_alloc ?_ _ | refine bel_set ?_ (by first | (dsimp only; omega) | (simp; done) | (simp; omega)) _ | refine bel_trans ?_ (by assumption)))⟩

theorem chain_List_nil (x : Int) (w : World) :
    Calls Try.prog 20 #[.pointer none, .int .i64 x] w (GivesInts w []) := by
  go_enter Try.func20, Try.ntmps20
  go_wp2_with fail
  refine (chain_First_nil x _).mono ?_
  rintro e w1 ⟨rfl, rfl⟩
  go_wp2_with fail
  refine wp_loop_rounds 1 ?_
  rw [rounds_succ]
  go_wp2_with fail
  go_ret
  exact ⟨none, 0, 0, rfl, IntsFrom.nil, (by repeat (first | exact Below.refl _ _ | assumption | refine bel_drew ?_ | refine bel_drewN ?_ _ | refine bel_alloc ?_ _ | refine bel_set ?_ (by first | (dsimp only; omega) | (simp; done) | (simp; omega)) _ | refine bel_trans ?_ (by assumption)))⟩

/-- What holds at the head of List's loop; g: how many nodes are still to come. -/
def ListRel (w : World) (r : List Nat) (g : Nat) (s5 s6 : Value) (wr : World) : Prop :=
  ∃ k : Nat, k + g = r.length ∧ s6 = .int .i64 (PC.headD (r.drop k)) ∧ wr.ownsRow w.heap.size 3 1 s5 k ((ints (r.take k)).map (Value.int .i64)) ∧ Below w.heap.size w wr

set_option maxHeartbeats 1000000 in
theorem chain_List_yes (C Nb Lb n l : Nat) (S : CS) (R : Nat → List Nat) (i : Nat) (w : World) (h : ChainAt w C Nb Lb n l S) (hi : PC.Inv n l S R) (hil : i < l) :
    Calls Try.prog 20 #[.pointer (some ⟨C, 0, none⟩), .int .i64 i] w (GivesInts w (ints (R i))) := by
  have hinfo : (Try.prog.info? 3).map (fun i => (i.zero, i.size, i.bytes)) = some (some (.int .i64 0), 1, 8) := by kernel_rfl
  obtain ⟨i0, hi0, hz0, hz1, hz2⟩ := info_parts hinfo
  have HI := Lib.hid hi0
  have HZ0 := Lib.hid hz0
  have HZ1 := Lib.hid hz1
  have HZ2 := Lib.hid hz2
  have c1 := fun W hW => chain_First_yes C Nb Lb n l S i W hW hil
  rw [hi.fn i hil] at c1
  have C1 := Lib.hid c1
  have H := Lib.hid h
  have hlen := hi.len hil
  have hbn := h.bn
  have hlt := Lib.hid (hi.lt i hil)
  have hnx := Lib.hid (hi.nx i hil)
  obtain ⟨r, hr⟩ : ∃ r, R i = r := ⟨_, rfl⟩
  rw [hr] at hlt hnx hlen C1 ⊢
  clear c1 h hinfo hi0 hz0 hz1 hz2 hi hr
  go_enter Try.func20, Try.ntmps20
  go_wp2_with fail
  refine (C1.out _ H.out).mono ?_
  rintro e w1 ⟨rfl, rfl⟩
  go_wp2_with fail
  go_loopg [5, 6] r.length (fun g s5 s6 wr => ListRel w r g s5 s6 wr)
  case atStart => exact ⟨0, by omega, rfl, World.ownsRow_nil _ _ _ _, Below.refl _ _⟩
  case round =>
    obtain ⟨k, hk, rfl, hown, hbel⟩ := hrel
    have HO := Lib.hid hown
    have HK := Lib.hid hk
    have HB := Lib.hid hbel
    clear hown hk hbel
    by_cases hg : gk = 0
    · have hd : r.drop k = [] := List.drop_eq_nil_of_le (by have := HK.out; omega)
      rw [hd, PC.headD_nil]
      have HT := Lib.hid (show r.take k = r from List.take_of_length_le (by have := HK.out; omega))
      clear hd hg
      go_wp2_with fail
      go_ret
      obtain ⟨A, c, hv, hi⟩ := ints_of_own HO.out (by have := HK.out; omega)
      rw [HT.out] at hi
      exact ⟨A, _, c, congrArg Ending.returned hv, hi, HB.out⟩
    · have hkl : k < r.length := by have := HK.out; omega
      have hdr := List.drop_eq_getElem_cons hkl
      obtain ⟨x, hx⟩ : ∃ x, r[k] = x := ⟨_, rfl⟩
      rw [hx] at hdr
      have hxn := hlt.out x (by rw [← hx]; exact List.getElem_mem hkl)
      have hn := hnx.out x (r.take k) (r.drop (k + 1)) (by rw [← hdr, List.take_append_drop])
      have hts : r.take (k + 1) = r.take k ++ [x] := by rw [List.take_succ_eq_append_getElem hkl, hx]
      rw [hdr, PC.headD_cons]
      have c2 := fun W hW => chain_Next_yes C Nb Lb n l S x W hW hxn
      rw [hn] at c2
      have C2 := Lib.hid c2
      have HTS := Lib.hid hts
      have HG := Lib.hid hg
      have hone : ∀ u ∈ [Value.int .i64 (x : Int)], u.oneCell' = true := by simp [Value.oneCell']
      have HONE := Lib.hid hone
      have HKL := Lib.hid hkl
      clear hdr hn hts c2 hx hg hone hkl
      have hx0 : (0 : Int) ≤ (x : Int) := by omega
      go_wp2_with (at_builtin; refine wpList_append_own _ rfl _ _ 27 rfl w.heap.size 3 i0 (.int .i64 0) 1 8 Try.underlying27 HI.out HZ0.out HZ1.out HZ2.out rfl (by decide) _ _ _ rfl (HO.out.alloc _) ⟨wr.heap.size, 0, none⟩ 1 1 [.int .i64 x] rfl rfl (cell_one_new _ _ _) HONE.out (by have := HKL.out; unfold maxLen; omega) (by have := HKL.out; omega) (by have := HB.out.size; simp; omega) ?_; intro v' w2 hown' hgrow _)
      have HO' := Lib.hid hown'
      have hb2 : Below w.heap.size w w2 := (bel_alloc HB.out _).grown hgrow (by have := HB.out.size; simp; omega) (fun g hg => (HO.out.lt g hg).1)
      have HB2 := Lib.hid hb2
      clear hown' hgrow hb2
      go_wp2_with fail
      refine (C2.out _ (H.out.keep HB2.out)).mono ?_
      rintro e w3 ⟨rfl, rfl⟩
      go_wp2_with fail
      go_roundg (gk - 1)
      case measure => have := HG.out; omega
      case rel => exact ⟨k + 1, by have := HK.out; have := HG.out; omega, rfl, by rw [HTS.out, ints, List.map_append, List.map_append]; exact HO'.out, HB2.out⟩

theorem chain_List {w : World} {C Nb Lb n l : Nat} {R : Nat → List Nat} (i : Int) (h : ChainRows w C Nb Lb n l R) :
    Calls Try.prog 20 #[.pointer (some ⟨C, 0, none⟩), .int .i64 i] w (GivesInts w (ints (PC.rowV l R i))) := by
  obtain ⟨S, h, hi⟩ := h
  by_cases hx : i < 0 ∨ (l : Int) ≤ i
  · rw [PC.rowV_out hx]
    exact chain_List_no C Nb Lb n l S i w h hx
  · obtain ⟨i', rfl⟩ : ∃ i' : Nat, i = i' := ⟨i.toNat, by omega⟩
    rw [PC.rowV_in (by omega)]
    exact chain_List_yes C Nb Lb n l S R i' w h hi (by omega)
end Go.Proofs.Ytdhcmnbajkpjiaa
/-
  Chain: what a zero chain tells.
-/
namespace Go.Proofs.Ytdhcmnbajkpjiaa
open Go.RowKit
set_option linter.unusedVariables false
attribute [local go_sem] drewN_alloc drewN_setCell

/-- A chain that New did not give. -/
def ZeroAt (w : World) (C : Nat) : Prop := w.cell? ⟨C, 0, none⟩ = some (.slice none 0 0) ∧ w.cell? ⟨C, 1, none⟩ = some (.slice none 0 0)
section
variable {w : World} {C : Nat}
theorem zero_is (x : Int) (w : World) (h : w.cell? ⟨C, 0, none⟩ = some (.slice none 0 0)) :
    Calls Try.prog 102 #[.pointer (some ⟨C, 0, none⟩), .int .i64 x] w fun e w' => e = .returned (.bool false) ∧ w = w' := by
  by_cases hx : 0 ≤ x
  · have h2 : decide (x < 0) = false := by simp; omega
    go_enter Try.func102, Try.ntmps102
    go_wp2_with fail
    go_ret
    exact ⟨ret_bool (by simp; try omega), rfl⟩
  · go_enter Try.func102, Try.ntmps102
    go_wp2_with fail
    go_ret
    exact ⟨ret_bool (by simp; try omega), rfl⟩
theorem zero_has (x : Int) (w : World) (h : w.cell? ⟨C, 1, none⟩ = some (.slice none 0 0)) :
    Calls Try.prog 101 #[.pointer (some ⟨C, 0, none⟩), .int .i64 x] w fun e w' => e = .returned (.bool false) ∧ w = w' := by
  by_cases hx : 0 ≤ x
  · have h2 : decide (x < 0) = false := by simp; omega
    go_enter Try.func101, Try.ntmps101
    go_wp2_with fail
    go_ret
    exact ⟨ret_bool (by simp; try omega), rfl⟩
  · go_enter Try.func101, Try.ntmps101
    go_wp2_with fail
    go_ret
    exact ⟨ret_bool (by simp; try omega), rfl⟩
theorem zero_Of (x : Int) (h : ZeroAt w C) :
    Calls Try.prog 23 #[.pointer (some ⟨C, 0, none⟩), .int .i64 x] w fun e w' => e = .returned (.int .i64 (-1)) ∧ w = w' := by
  have K := h.1
  clear h
  go_enter Try.func23, Try.ntmps23
  go_wp2_with fail
  refine (zero_is x _ K).mono ?_
  rintro e w1 ⟨rfl, rfl⟩
  go_wp2_with fail
  go_ret
  exact ⟨rfl, rfl⟩
theorem zero_Next (x : Int) (h : ZeroAt w C) :
    Calls Try.prog 30 #[.pointer (some ⟨C, 0, none⟩), .int .i64 x] w fun e w' => e = .returned (.int .i64 (-1)) ∧ w = w' := by
  have K := h.1
  clear h
  go_enter Try.func30, Try.ntmps30
  go_wp2_with fail
  refine (zero_is x _ K).mono ?_
  rintro e w1 ⟨rfl, rfl⟩
  go_wp2_with fail
  go_ret
  exact ⟨rfl, rfl⟩
theorem zero_First (x : Int) (h : ZeroAt w C) :
    Calls Try.prog 29 #[.pointer (some ⟨C, 0, none⟩), .int .i64 x] w fun e w' => e = .returned (.int .i64 (-1)) ∧ w = w' := by
  have K := h.2
  clear h
  go_enter Try.func29, Try.ntmps29
  go_wp2_with fail
  refine (zero_has x _ K).mono ?_
  rintro e w1 ⟨rfl, rfl⟩
  go_wp2_with fail
  go_ret
  exact ⟨rfl, rfl⟩
theorem zero_Len (x : Int) (h : ZeroAt w C) :
    Calls Try.prog 28 #[.pointer (some ⟨C, 0, none⟩), .int .i64 x] w fun e w' => e = .returned (.int .i64 (0)) ∧ w = w' := by
  have K := h.2
  clear h
  go_enter Try.func28, Try.ntmps28
  go_wp2_with fail
  refine (zero_has x _ K).mono ?_
  rintro e w1 ⟨rfl, rfl⟩
  go_wp2_with fail
  go_ret
  exact ⟨rfl, rfl⟩
theorem zero_Add (i x : Int) (h : ZeroAt w C) :
    Calls Try.prog 19 #[.pointer (some ⟨C, 0, none⟩), .int .i64 i, .int .i64 x] w fun e w' => e = .returned (.bool false) ∧ w = w' := by
  have K := h.2
  clear h
  go_enter Try.func19, Try.ntmps19
  go_wp2_with fail
  refine (zero_has i _ K).mono ?_
  rintro e w1 ⟨rfl, rfl⟩
  go_wp2_with fail
  go_ret
  exact ⟨rfl, rfl⟩
theorem zero_Drop (x : Int) (h : ZeroAt w C) :
    Calls Try.prog 21 #[.pointer (some ⟨C, 0, none⟩), .int .i64 x] w fun e w' => e = .returned (.bool false) ∧ w = w' := by
  have K := Lib.hid h
  clear h
  go_enter Try.func21, Try.ntmps21
  go_wp2_with fail
  refine (zero_Of x K.out).mono ?_
  rintro e w1 ⟨rfl, rfl⟩
  go_wp2_with fail
  go_ret
  exact ⟨rfl, rfl⟩
theorem zero_List (x : Int) (h : ZeroAt w C) :
    Calls Try.prog 20 #[.pointer (some ⟨C, 0, none⟩), .int .i64 x] w (GivesInts w []) := by
  have K := Lib.hid h
  clear h
  go_enter Try.func20, Try.ntmps20
  go_wp2_with fail
  refine (zero_First x K.out).mono ?_
  rintro e w1 ⟨rfl, rfl⟩
  go_wp2_with fail
  refine wp_loop_rounds 1 ?_
  rw [rounds_succ]
  go_wp2_with fail
  go_ret
  exact ⟨none, 0, 0, rfl, IntsFrom.nil, (by repeat (first | exact Below.refl _ _ | assumption | refine bel_drew ?_ | refine bel_drewN ?_ _ | refine bel_alloc ?_ _ | refine bel_set ?_ (by first | (dsimp only; omega) | (simp; done) | (simp; omega)) _ | refine bel_trans ?_ (by assumption)))⟩
end
end Go.Proofs.Ytdhcmnbajkpjiaa
/-
  A block that is known whole.
-/
namespace Go.Proofs.Ytdhcmnbajkpjiaa
open Go.RowKit

def RowAt (w : World) (g : Nat) (t : TypeId) (cs : List Value) : Prop := w.heap[g]? = some (.cells cs.toArray t (0, 0))

section
variable {w w' : World} {g : Nat} {t : TypeId} {cs : List Value}
theorem RowAt.lt (h : RowAt w g t cs) : g < w.heap.size := by
  rcases Nat.lt_or_ge g w.heap.size with hl | hge
  · exact hl
  · unfold RowAt at h; rw [Array.getElem?_eq_none hge] at h; cases h
theorem RowAt.cell (h : RowAt w g t cs) (i : Nat) : w.cell? ⟨g, i, none⟩ = cs[i]? := by
  rw [cell_of_row w g i cs.toArray t (0, 0) h]; simp
theorem RowAt.frozen (h : RowAt w g t cs) (i : Nat) : w.frozen? ⟨g, i, none⟩ = false := by
  unfold RowAt at h
  simp [World.frozen?, h]
theorem RowAt.new (w : World) (t : TypeId) (cs : List Value) : RowAt (w.alloc (.cells cs.toArray t)) w.heap.size t cs := by
  show (w.heap.push _)[w.heap.size]? = _
  simp
theorem RowAt.drewN (h : RowAt w g t cs) (n : Nat) : RowAt (w.drewN n) g t cs := h
theorem RowAt.alloc (h : RowAt w g t cs) (o : Obj) : RowAt (w.alloc o) g t cs := (Below.heap_alloc w o g h.lt).trans h
theorem RowAt.set_ (h : RowAt w g t cs) (i : Nat) (u : Value) : RowAt (w.setCell ⟨g, i, none⟩ u) g t (cs.set i u) := by
  unfold RowAt at h ⊢
  simp [World.setCell, Array.getElem?_modify, h]
theorem RowAt.far (h : RowAt w g t cs) {p : Addr} (hp : g ≠ p.block) (u : Value) : RowAt (w.setCell p u) g t cs := (Below.heap_setCell w p u g hp).trans h
theorem RowAt.below {B : Nat} (h : RowAt w g t cs) (hb : Below B w w') (hg : g < B) : RowAt w' g t cs := (hb.block g hg).trans h
theorem RowAt.keep (h : RowAt w g t cs) (hb : Below w.heap.size w w') : RowAt w' g t cs := h.below hb h.lt
end

/-- The i-th of n cells, filled up to k. -/
def filled (n k : Nat) (f : Nat → Value) (z : Value) : List Value := (List.range n).map fun j => if j < k then f j else z
theorem filled_len (n k : Nat) (f : Nat → Value) (z : Value) : (filled n k f z).length = n := by simp [filled]
theorem filled_get {n k i : Nat} (f : Nat → Value) (z : Value) (hi : i < n) : (filled n k f z)[i]? = some (if i < k then f i else z) := by simp [filled, hi]
theorem filled_set (n k : Nat) (f : Nat → Value) (z : Value) : (filled n k f z).set k (f k) = filled n (k + 1) f z := by
  apply List.ext_getElem?
  intro i
  rw [List.getElem?_set]
  by_cases hik : k = i
  · subst hik
    by_cases hn : k < n
    · simp [filled, hn]
    · simp [filled, hn]
  · simp only [hik, if_false]
    by_cases hn : i < n
    · rw [filled_get f z hn, filled_get f z hn]
      by_cases h1 : i < k
      · rw [if_pos h1, if_pos (by omega)]
      · rw [if_neg h1, if_neg (by omega)]
    · simp [filled, hn]
theorem filled_made (z : Value) (n : Nat) (f : Nat → Value) : madeCells #[z] n = (filled n 0 f z).toArray := by
  apply Array.ext_getElem?
  intro i
  by_cases hi : i < n
  · simp [madeCells, filled, hi, Nat.mod_one]
  · simp [madeCells, filled, hi]
end Go.Proofs.Ytdhcmnbajkpjiaa
/-
  make of a slice of structs whose size the walk computes.
-/
namespace Go.Proofs.Ytdhcmnbajkpjiaa
open Go.RowKit
set_option linter.unusedVariables false

theorem run_make_agg {P : Program} (t e : TypeId) (zv : Value) (z : Array Value) (size bytes : Nat) (ht : P.underlying t = some (.slice e)) (hinfo : (P.info? e).map (fun i => (i.zero, i.size, i.bytes)) = some (some zv, size, bytes)) (hz1 : zv.cells = z)
    (kl kc : IntKind) (n : Nat) (hbytes : bytes * n ≤ 281474976710656) (h63 : n ≤ 9223372036854775807) (w : World) :
    (Instr.makeSlice t (.int kl (n : Int)) (.int kc (n : Int))).run P w = .ok (.slice (some ⟨w.heap.size, 0, none⟩) n n) (w.alloc (.cells (madeCells z (n * size)) e)) := by
  obtain ⟨i, hi, hzz⟩ := Option.map_eq_some_iff.1 hinfo
  simp only [Prod.mk.injEq] at hzz
  obtain ⟨hz, hs, hb⟩ := hzz
  have hb' : (i.bytes : Int) * (n : Int) ≤ 281474976710656 := by
    have h : ((i.bytes * n : Nat) : Int) ≤ 281474976710656 := by rw [hb]; omega
    rwa [Int.natCast_mul] at h
  have hr := run_make (P := P) w t e i zv ht hi hz kl kc n n (by omega) (Int.le_refl _) hb' (by omega)
  simp only [Int.toNat_natCast, hs, hz1] at hr
  exact hr

theorem filled_made3 (z : Value) (n : Nat) (f : Nat → Value) : madeCells #[z, z, z] n = (filled n 0 f z).toArray := by
  apply Array.ext_getElem?
  intro i
  by_cases hi : i < n
  · have h3 : i % 3 = 0 ∨ i % 3 = 1 ∨ i % 3 = 2 := by omega
    rcases h3 with h | h | h <;> simp [madeCells, filled, hi, h]
  · simp [madeCells, filled, hi]
/-- One cell more that is as it was. -/
theorem filled_same (n k : Nat) (f : Nat → Value) (z : Value) (h : f k = z) : filled n k f z = filled n (k + 1) f z := by
  apply List.ext_getElem?
  intro i
  by_cases hn : i < n
  · rw [filled_get f z hn, filled_get f z hn]
    by_cases h1 : i < k
    · rw [if_pos h1, if_pos (by omega)]
    · rw [if_neg h1]
      by_cases h2 : i = k
      · subst h2; rw [if_pos (by omega), h]
      · rw [if_neg (by omega)]
  · simp [filled, hn]
end Go.Proofs.Ytdhcmnbajkpjiaa
