/-
  An opener for slices of structs whose cells are of several kinds.
-/
import Derived.Test.YtdhcmnbajkpjiaaFrame2
namespace Go.Proofs.Ytdhcmnbajkpjiaa.Fr
open Go.ChangeShapes Go.WideShapes Go.ChangeAt Go.RowKit Go.Deep

section
variable {H : Type} {enc : TypeId × Value → H} {P : Program} {w : World}

/-- A type of S cells, the j-th of which meets Q j. -/
def FlatP {H : Type} (enc : TypeId × Value → H) (P : Program) (w : World) (sp : Nat → Bool) (Q : Nat → Value → Prop) (e S : Nat) : Prop :=
  ∀ fuel cs x, DataW.trod enc P w 0 sp true fuel e cs = some x → cs.length = S ∧ ∀ j, j < S → ∃ v, cs[j]? = some v ∧ Q j v

def IntV (v : Value) : Prop := ∃ n : Int, v = .int .i64 n ∧ -9223372036854775808 ≤ n ∧ n ≤ 9223372036854775807
def BoolV (v : Value) : Prop := ∃ b : Bool, v = .bool b

theorem FlatP.int {sp : Nat → Bool} {Q : Nat → Value → Prop} {e : Nat} (he : P.underlying e = some (.int .i64)) (hQ : ∀ v, IntV v → Q 0 v) : FlatP enc P w sp Q e 1 := by
  intro fuel cs x h
  obtain ⟨n, rfl, _, hw⟩ := DataW.trod_int he h
  refine ⟨rfl, fun j hj => ?_⟩
  obtain rfl : j = 0 := by omega
  exact ⟨_, rfl, hQ _ ⟨n, rfl, bounds_i64 hw⟩⟩
theorem FlatP.bool {sp : Nat → Bool} {Q : Nat → Value → Prop} {e : Nat} (he : P.underlying e = some .bool) (hQ : ∀ v, BoolV v → Q 0 v) : FlatP enc P w sp Q e 1 := by
  intro fuel cs x h
  obtain ⟨n, rfl, _⟩ := DataW.trod_bool he h
  refine ⟨rfl, fun j hj => ?_⟩
  obtain rfl : j = 0 := by omega
  exact ⟨_, rfl, hQ _ ⟨n, rfl⟩⟩

theorem FlatP.struct {sp : Nat → Bool} {Q : Nat → Value → Prop} {e S : Nat} {fs : Array Field} (he : P.underlying e = some (.struct fs)) (hc : P.cellsOf e = S)
    (hf : ∀ j, j < S → ∃ (i : Nat) (f : Field), fs[i]? = some f ∧ f.offset ≤ j ∧ j < f.offset + P.cellsOf f.type ∧ FlatP enc P w sp (fun k v => Q (f.offset + k) v) f.type (P.cellsOf f.type)) : FlatP enc P w sp Q e S := by
  intro fuel cs x h
  obtain ⟨xs, m, _, _, hlen, hxl, hg⟩ := DataW.trod_struct he h
  refine ⟨hlen.trans hc, fun j hj => ?_⟩
  obtain ⟨i, f, hfi, h1, h2, hfl⟩ := hf j hj
  have hil : i < fs.size := (Array.getElem?_eq_some_iff.1 hfi).1
  have h3 := hg i f hfi
  have hx : xs[i]? = some (xs[i]'(by omega)) := List.getElem?_eq_getElem (by omega)
  rw [hx] at h3
  obtain ⟨_, h4⟩ := hfl _ _ _ h3
  obtain ⟨v, hv, hb⟩ := h4 (j - f.offset) (by omega)
  refine ⟨v, ?_, ?_⟩
  · rw [List.getElem?_take, if_pos (by omega), List.getElem?_drop] at hv
    rw [← hv]
    congr 1
    omega
  · rwa [show f.offset + (j - f.offset) = j by omega] at hb

/-- A struct each of whose fields is one cell. -/
theorem FlatP.struct1 {sp : Nat → Bool} {Q : Nat → Value → Prop} {e S : Nat} {fs : Array Field} (he : P.underlying e = some (.struct fs)) (hc : P.cellsOf e = S)
    (hf : ∀ j, j < S → ∃ f : Field, fs[j]? = some f ∧ f.offset = j ∧ P.cellsOf f.type = 1 ∧ FlatP enc P w sp (fun k v => Q (j + k) v) f.type 1) : FlatP enc P w sp Q e S := by
  refine FlatP.struct he hc (fun j hj => ?_)
  obtain ⟨f, h1, h2, h3, h4⟩ := hf j hj
  subst h2
  exact ⟨_, f, h1, Nat.le_refl _, by omega, by rw [h3]; exact h4⟩

/-- What the walk is told of a slice of rows of S cells that came in. -/
def RowsP (w : World) (S : Nat) (Q : Nat → Value → Prop) (a : Option Addr) (len : Nat) : Prop :=
  len ≤ 9223372036854775807 ∧ (0 < len → ∃ b off, a = some ⟨b, off, none⟩ ∧ b < w.heap.size ∧
    ∀ i, i < len → ∀ j, j < S → ∃ v, w.cell? ⟨b, off + i * S + j, none⟩ = some v ∧ Q j v)

theorem open_rowsP {t e S : Nat} {Q : Nat → Value → Prop} {a : Option Addr} {len cap : Nat} {d : DataW H} {ps : List MemPlace} {base : Nat} (ht : P.underlying t = some (.slice e)) (hS : P.cellsOf e = S) (h0 : 0 < S)
    (hfl : FlatP enc P w (fun _ => true) Q e S)
    (h : DataW.Trod enc P w 0 (fun _ => true) true t (.slice a len cap) d ps) (hv : Value.okWide P w .any base t (.slice a len cap)) : RowsP w S Q a len := by
  obtain ⟨fuel, hf⟩ := h
  rcases open_slice ht hf with ⟨hcs, _⟩ | ⟨x, l, c, m, n, D, Pl, hcs, hb, hl, hm, hmm, hx, hi⟩
  · simp [Value.cells] at hcs
    obtain ⟨rfl, rfl, rfl⟩ := hcs
    exact ⟨by omega, fun h => absurd h (by omega)⟩
  · simp [Value.cells] at hcs
    obtain ⟨rfl, rfl, rfl⟩ := hcs
    simp only [if_true] at hmm
    subst hmm
    have hsp : x.spot = none := by
      unfold Value.okWide at hv
      rw [ht] at hv
      simp only at hv
      unfold Cell.okWide at hv
      rw [ht] at hv
      simp only at hv
      unfold Cell.ok at hv
      rw [ht] at hv
      simp only at hv
      exact hv.2.2.2.1
    obtain ⟨b, off, spot⟩ := x
    simp only at hsp
    subst hsp
    have key : ∀ i j, i < m → j < S → ∃ v, w.cell? ⟨b, off + i * S + j, none⟩ = some v ∧ Q j v := by
      intro i j him hjS
      obtain ⟨cs', hc, ht'⟩ := hi i him
      rw [hS] at hc
      obtain ⟨hlen, hfj⟩ := hfl _ _ _ ht'
      obtain ⟨v, hv', hb'⟩ := hfj j hjS
      obtain ⟨_, _, hat⟩ := World.cells?_some hc
      have hcell := hat j hjS
      refine ⟨v, ?_, hb'⟩
      rw [← hv', ← hcell]
      congr 1
      simp only [Addr.add]
      split <;> split <;> simp_all [Nat.add_assoc]
    refine ⟨by unfold maxLen at hm; omega, fun hn => ⟨b, off, rfl, ?_, fun i hil j hj => key i j (by omega) hj⟩⟩
    obtain ⟨v, hv', _⟩ := key 0 0 (by omega) h0
    exact World.block_lt_of_cell? _ _ hv'
end
end Go.Proofs.Ytdhcmnbajkpjiaa.Fr
