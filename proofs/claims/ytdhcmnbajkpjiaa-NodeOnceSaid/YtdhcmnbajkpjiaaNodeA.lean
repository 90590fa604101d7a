/-
  Slots in memory: a set of places in a map of the call's own; what a call of slots leaves as it was.
-/
import Derived.Test.YtdhcmnbajkpjiaaChainJ
import Derived.Test.YtdhcmnbajkpjiaaRow
import Derived.Test.YtdhcmnbajkpjiaaOwnI
import Derived.Maps.OwnSet
import Derived.Maps.Views
namespace Go.Proofs.Ytdhcmnbajkpjiaa
open Go.RowKit
open Go.Maps
set_option linter.unusedVariables false
set_option linter.unusedSimpArgs false
attribute [local go_sem] drewN_alloc drewN_setCell

/-- Only blocks of 'own' have changed among the old ones. -/
structure Chg (own : Nat → Prop) (w w' : World) : Prop where
  os : w'.os = w.os
  tape : w'.tape = w.tape
  output : w'.output = w.output
  size : w.heap.size ≤ w'.heap.size
  block : ∀ k, k < w.heap.size → ¬ own k → w'.heap[k]? = w.heap[k]?
theorem Chg.refl (own : Nat → Prop) (w : World) : Chg own w w := ⟨rfl, rfl, rfl, Nat.le_refl _, fun _ _ _ => rfl⟩
theorem Chg.trans {own : Nat → Prop} {a b c : World} (h : Chg own a b) (k : Chg own b c) : Chg own a c :=
  ⟨k.os.trans h.os, k.tape.trans h.tape, k.output.trans h.output, Nat.le_trans h.size k.size, fun i h1 h2 => (k.block i (Nat.lt_of_lt_of_le h1 h.size) h2).trans (h.block i h1 h2)⟩
theorem Chg.mono {own own' : Nat → Prop} {a b : World} (h : Chg own a b) (hh : ∀ k, k < a.heap.size → own k → own' k) : Chg own' a b :=
  ⟨h.os, h.tape, h.output, h.size, fun i h1 h2 => h.block i h1 (fun h3 => h2 (hh i h1 h3))⟩
theorem Chg.of_below {own : Nat → Prop} {w w' : World} (h : Below w.heap.size w w') : Chg own w w' := ⟨h.os, h.tape, h.output, h.size, fun k hk _ => h.block k hk⟩
theorem Chg.of_off {own : Nat → Prop} {A B : Nat} {w w' : World} (h : Off A B w w') (hA : own A) (hB : own B) : Chg own w w' :=
  ⟨h.os, h.tape, h.output, h.size, fun k hk hn => h.block k (fun e => hn (e ▸ hA)) (fun e => hn (e ▸ hB)) hk⟩
theorem Chg.of_grown {own : Nat → Prop} {w w' : World} {row : Option Nat} (h : w.grownBy w' row) (hr : ∀ k, row = some k → own k) : Chg own w w' :=
  ⟨h.os, h.tape, h.output, h.size, fun k hk hn => h.block k hk (fun e => hn (hr k e.symm))⟩
theorem Chg.set {own : Nat → Prop} {a w : World} (h : Chg own a w) {p : Addr} (hp : own p.block) (u : Value) : Chg own a (w.setCell p u) :=
  h.trans ⟨rfl, rfl, rfl, by simp [World.setCell], fun k h1 h2 => Below.heap_setCell _ _ _ _ (fun e => h2 (e ▸ hp))⟩
theorem Chg.drewN {own : Nat → Prop} {a w : World} (h : Chg own a w) (n : Nat) : Chg own a (w.drewN n) := ⟨h.os, h.tape, h.output, h.size, h.block⟩
theorem Chg.below {own : Nat → Prop} {B : Nat} {a w : World} (h : Chg own a w) (hB : B ≤ a.heap.size) (hh : ∀ k, own k → B ≤ k) : Below B a w :=
  ⟨h.os, h.tape, h.output, h.size, fun k hk => h.block k (by omega) (fun e => by have := hh k e; omega)⟩
theorem RowAt.of_block {w w' : World} {g : Nat} {t : TypeId} {cs : List Value} (h : RowAt w g t cs) (e : w'.heap[g]? = w.heap[g]?) : RowAt w' g t cs := e.trans h
theorem OwnI.of_block {B : Nat} {w w' : World} {v : Value} {l : List Int} (h : OwnI B w v l) (e : ∀ k, v.ownBlock = some k → w'.heap[k]? = w.heap[k]?) : OwnI B w' v l := by
  refine ⟨h.1, ?_⟩
  rcases h.2 with ⟨rfl, e1⟩ | ⟨g, cap, cur, rfl, hb, hgg, r⟩
  · exact .inl ⟨rfl, e1⟩
  · exact .inr ⟨g, cap, cur, rfl, hb, (e g rfl).trans hgg, r⟩

theorem place_keyed : Keyed Try.prog 3 := int_keyed Try.underlying3
theorem place_zero (w : World) : (zeroValue 4).run Try.prog w = .ok (.bool false) w := by kernel_rfl
/-- Block b is a map that says yes of just the places of L. -/
def SetAt (w : World) (b : Nat) (L : List Nat) : Prop :=
  ∃ D : DataW Unit, w.ownsMap Try.prog 3 (plainElem Try.prog 4) b (Maps.size D) D ∧ Maps.size D = L.length ∧ (∀ x : Int, D.atKey (.int .i64 x) (.lit (.bool false)) = .lit (.bool (decide (x ∈ ints L)))) ∧ ∀ x : Int, Maps.has D (.int .i64 x) = decide (x ∈ ints L)
theorem tight {w : World} {b n : Nat} {D : DataW Unit} (h : w.ownsMap Try.prog 3 (plainElem Try.prog 4) b n D) : w.ownsMap Try.prog 3 (plainElem Try.prog 4) b (Maps.size D) D := by
  obtain ⟨es, clock, hb, F, hs, rfl⟩ := h
  exact ⟨es, clock, hb, F, by simp [Maps.size, length_sorted], rfl⟩
theorem SetAt.made (w : World) : SetAt (w.alloc (.map #[] 0)) w.heap.size [] :=
  ⟨.map [], tight (World.ownsMap_made _ _ _ _), rfl, fun x => by simp [DataW.atKey, ints], fun x => by simp [Maps.has, ints]⟩
theorem SetAt.of_block {w w' : World} {b : Nat} {L : List Nat} (h : SetAt w b L) (e : w'.heap[b]? = w.heap[b]?) : SetAt w' b L := by
  obtain ⟨D, ⟨es, clock, hb, r⟩, h2⟩ := h
  exact ⟨D, ⟨es, clock, e.trans hb, r⟩, h2⟩
theorem SetAt.lt {w : World} {b : Nat} {L : List Nat} (h : SetAt w b L) : b < w.heap.size := by
  obtain ⟨D, h1, _⟩ := h
  exact h1.lt
theorem plain_bool_inv {P : Program} {e : TypeId} (he : P.underlying e = some .bool) {v : Value} {z : DataW Unit × List MemPlace} (h : plainElem P e v = some z) : ∃ x, v = .bool x ∧ z = (.lit (.bool x), []) := by
  unfold plainElem at h
  rw [he] at h
  cases v <;> simp at h
  exact ⟨_, rfl, h.symm⟩
def BdI (x : Int) : Prop := -9223372036854775808 ≤ x ∧ x ≤ 9223372036854775807
theorem SetAt.look {w : World} {b : Nat} {L : List Nat} (h : SetAt w b L) (x : Int) (hx : BdI x) :
    (Instr.lookup 164 (.map (some b)) (.int .i64 x) false).run Try.prog w = .ok (.bool (decide (x ∈ ints L))) w := by
  obtain ⟨D, h1, _, h3, _⟩ := h
  obtain ⟨v, ps, hrun, hv⟩ := h1.lookup place_keyed Try.underlying164 (place_zero w) (plainElem_bool Try.underlying4 false) (keyOf_int_mk (P := Try.prog) (k := 3) Try.underlying3 (WalkArith.wf_i64 hx) : keyOf Try.prog 3 (.int .i64 x) = some (.int .i64 x))
  rw [h3] at hv
  obtain ⟨y, rfl, hy⟩ := plain_bool_inv Try.underlying4 hv
  simp at hy
  rw [hrun, hy.1]
theorem in_ints {L : List Nat} {x : Nat} : (x : Int) ∈ ints L ↔ x ∈ L := by
  unfold ints
  rw [List.mem_map]
  constructor
  · rintro ⟨a, ha, e⟩
    obtain rfl : a = x := by omega
    exact ha
  · intro h; exact ⟨x, h, rfl⟩
theorem SetAt.add {w : World} {b : Nat} {L : List Nat} (h : SetAt w b L) (x : Nat) (hx : BdI x) (hn : x ∉ L) (hm : L.length < maxLen) :
    ∃ w', (Instr.mapUpdate 164 (.map (some b)) (.int .i64 (x : Int)) (.bool true)).run Try.prog w = .ok () w' ∧ SetAt w' b (x :: L) ∧ w.grownBy w' (some b) := by
  obtain ⟨D, h1, h2, h3, h4⟩ := h
  have ht := h1.tidy place_keyed
  obtain ⟨w', hrun, ho, hg⟩ := h1.update place_keyed Try.underlying164 (by omega) (keyOf_int_mk (P := Try.prog) (k := 3) Try.underlying3 (WalkArith.wf_i64 hx) : keyOf Try.prog 3 (.int .i64 (x : Int)) = some (.int .i64 (x : Int))) (plainElem_bool Try.underlying4 true)
  have hno : Maps.has D (.int .i64 (x : Int)) = false := by rw [h4]; exact decide_eq_false (fun h => hn (in_ints.1 h))
  refine ⟨w', hrun, ⟨_, tight ho, ?_, fun y => ?_, fun y => ?_⟩, hg⟩
  · rw [size_put ht, hno, h2]; simp
  · by_cases e : y = (x : Int)
    · subst e
      rw [atKey_put_same ht.isMap (by exact trivial)]
      simp [ints]
    · rw [atKey_put_other (by simpa using e), h3]
      have : (y ∈ ints (x :: L)) ↔ y ∈ ints L := by simp [ints, e]
      rw [decide_eq_decide.2 this]
  · by_cases e : y = (x : Int)
    · subst e
      rw [has_put_same ht.isMap (by exact trivial)]
      simp [ints]
    · rw [has_put_other (by simpa using e), h4]
      have : (y ∈ ints (x :: L)) ↔ y ∈ ints L := by simp [ints, e]
      rw [decide_eq_decide.2 this]
theorem SetAt.del {w : World} {b : Nat} {L : List Nat} (h : SetAt w b L) (x : Nat) (hx : BdI x) (hn : x ∈ L) (hL : L.Nodup) (ty : TypeId) :
    ∃ w', (Builtin.delete_ #[164, 3] ty #[.map (some b), .int .i64 (x : Int)]).run Try.prog w = .ok (.tuple #[]) w' ∧ SetAt w' b (L.erase x) ∧ w.grownBy w' (some b) := by
  obtain ⟨D, h1, h2, h3, h4⟩ := h
  have ht := h1.tidy place_keyed
  obtain ⟨w', hrun, ho, hg⟩ := h1.drop place_keyed Try.underlying164 (keyOf_int_mk (P := Try.prog) (k := 3) Try.underlying3 (WalkArith.wf_i64 hx) : keyOf Try.prog 3 (.int .i64 (x : Int)) = some (.int .i64 (x : Int))) ty
  have hyes : Maps.has D (.int .i64 (x : Int)) = true := by rw [h4]; exact decide_eq_true (in_ints.2 hn)
  have key : ∀ y : Int, y ≠ (x : Int) → (y ∈ ints (L.erase x) ↔ y ∈ ints L) := fun y hy => by
    unfold ints
    rw [List.mem_map, List.mem_map]
    constructor
    · rintro ⟨a, ha, rfl⟩; exact ⟨a, List.mem_of_mem_erase ha, rfl⟩
    · rintro ⟨a, ha, rfl⟩; exact ⟨a, (List.mem_erase_of_ne (fun e => hy (by rw [e]))).2 ha, rfl⟩
  have hself : ¬ ((x : Int) ∈ ints (L.erase x)) := fun h => ((hL.mem_erase_iff).1 (in_ints.1 h)).1 rfl
  refine ⟨w', hrun, ⟨_, tight ho, ?_, fun y => ?_, fun y => ?_⟩, hg.grown⟩
  · have := size_del (k := .int .i64 (x : Int)) ht
    rw [hyes, if_pos rfl] at this
    rw [List.length_erase_of_mem hn]
    omega
  · by_cases e : y = (x : Int)
    · subst e
      rw [atKey_del_same, decide_eq_false hself]
    · rw [atKey_del_other (by simpa using e), h3, decide_eq_decide.2 (key y e)]
  · by_cases e : y = (x : Int)
    · subst e
      rw [has_del_same, decide_eq_false hself]
    · rw [has_del_other (by simpa using e), h4, decide_eq_decide.2 (key y e)]
theorem SetAt.len {w : World} {b : Nat} {L : List Nat} (h : SetAt w b L) (ty : TypeId) : (Builtin.len_ #[164] ty #[.map (some b)]).run Try.prog w = .ok (.int .i64 (L.length : Int)) w := by
  obtain ⟨D, h1, h2, _⟩ := h
  rw [h1.len Try.underlying164 ty, h2]
theorem place_makeMap (w : World) : (Instr.makeMap 164 none).run Try.prog w = .ok (.map (some w.heap.size)) (w.alloc (.map #[] 0)) := by
  simp [Instr.makeMap, run_underlying Try.underlying164, asInt, asIntOf, Result.andThen]
/-- The first ones of a slice of one's own. -/
theorem OwnI.cut {B : Nat} {w : World} {A : Option Addr} {n c : Nat} {l : List Int} (h : OwnI B w (.slice A n c) l) (k : Nat) (hk : k ≤ l.length) (h0 : 0 < l.length) : OwnI B w (.slice A k c) (l.take k) := by
  rcases h.2 with ⟨e, e1⟩ | ⟨g, cap, cur, e, hb, hgg, hn, hcm, hcs, hx⟩
  · omega
  · cases e
    have e2 : (l.take k).length = k := by rw [List.length_take]; omega
    refine ⟨by unfold cellsI; simp, .inr ⟨g, c, cur, by rw [e2], hb, hgg, by rw [e2]; omega, hcm, hcs, ?_⟩⟩
    unfold cellsI at hx ⊢
    rw [e2, Nat.mul_one]
    rw [Nat.mul_one] at hx
    rw [List.map_take, ← hx, List.take_take]
    congr 1
    omega
end Go.Proofs.Ytdhcmnbajkpjiaa
