/- Part 4 of the proof of QueueNext: lemmas, each with its conditions ahead of it. -/
import Derived.Test.YtdhcmnbajkpjiaaPartQueueNext1
import Derived.Test.YtdhcmnbajkpjiaaPartQueueNext3
/-
  Openers for slices whose elements are rows of ints (arrays, structs, nested ones).
-/
namespace Go.Proofs.Ytdhcmnbajkpjiaa.Fr
open Go.ChangeShapes Go.WideShapes Go.ChangeAt Go.RowKit Go.Deep

section
variable {H : Type} {enc : TypeId × Value → H} {P : Program} {w : World}

/-- A type whose cells are S ints. -/
def FlatInt {H : Type} (enc : TypeId × Value → H) (P : Program) (w : World) (sp : Nat → Bool) (e S : Nat) : Prop :=
  ∀ fuel cs x, DataW.trod enc P w 0 sp true fuel e cs = some x → cs.length = S ∧ ∀ j, j < S → ∃ n : Int, cs[j]? = some (Value.int .i64 n) ∧ -9223372036854775808 ≤ n ∧ n ≤ 9223372036854775807

theorem FlatInt.int {sp : Nat → Bool} {e : Nat} (he : P.underlying e = some (.int .i64)) : FlatInt enc P w sp e 1 := by
  intro fuel cs x h
  obtain ⟨n, rfl, _, hw⟩ := DataW.trod_int he h
  refine ⟨rfl, fun j hj => ?_⟩
  obtain rfl : j = 0 := by omega
  exact ⟨n, rfl, bounds_i64 hw⟩

theorem FlatInt.array {sp : Nat → Bool} {e n it S : Nat} (he : P.underlying e = some (.array n it)) (hi : FlatInt enc P w sp it S) (hS : P.cellsOf it = S) (hc : P.cellsOf e = n * S) (h0 : 0 < S) : FlatInt enc P w sp e (n * S) := by
  intro fuel cs x h
  obtain ⟨xs, m, _, _, hlen, hxl, hg⟩ := DataW.trod_array he h
  refine ⟨hlen.trans hc, fun j hj => ?_⟩
  have hq : j / S < n := Nat.div_lt_of_lt_mul (by rw [Nat.mul_comm]; exact hj)
  have h1 := hg (j / S) hq
  have hx : xs[j / S]? = some (xs[j / S]'(by omega)) := List.getElem?_eq_getElem (by omega)
  rw [hx, hS] at h1
  obtain ⟨_, h2⟩ := hi _ _ _ h1
  obtain ⟨v, hv, hb⟩ := h2 (j % S) (Nat.mod_lt _ h0)
  refine ⟨v, ?_, hb⟩
  rw [List.getElem?_take, if_pos (Nat.mod_lt _ h0), List.getElem?_drop] at hv
  rw [← hv]
  congr 1
  have := Nat.div_add_mod j S
  rw [Nat.mul_comm] at this
  omega

theorem FlatInt.struct {sp : Nat → Bool} {e S : Nat} {fs : Array Field} (he : P.underlying e = some (.struct fs)) (hc : P.cellsOf e = S)
    (hf : ∀ j, j < S → ∃ (i : Nat) (f : Field), fs[i]? = some f ∧ f.offset ≤ j ∧ j < f.offset + P.cellsOf f.type ∧ FlatInt enc P w sp f.type (P.cellsOf f.type)) : FlatInt enc P w sp e S := by
  intro fuel cs x h
  obtain ⟨xs, m, _, _, hlen, hxl, hg⟩ := DataW.trod_struct he h
  refine ⟨hlen.trans hc, fun j hj => ?_⟩
  obtain ⟨i, f, hfi, h1, h2, hfl⟩ := hf j hj
  have hil : i < fs.size := (Array.getElem?_eq_some_iff.1 hfi).1
  have h3 := hg i f hfi
  have hx : xs[i]? = some (xs[i]'(by omega)) := List.getElem?_eq_getElem (by omega)
  rw [hx] at h3
  obtain ⟨_, h4⟩ := hfl _ _ _ h3
  obtain ⟨v, hv, hb⟩ := h4 (j - f.offset) (by omega)
  refine ⟨v, ?_, hb⟩
  rw [List.getElem?_take, if_pos (by omega), List.getElem?_drop] at hv
  rw [← hv]
  congr 1
  omega

/-- What the walk is told of a slice of rows of S ints that came in. -/
def IsRows (w : World) (S : Nat) (a : Option Addr) (len cap : Nat) (F : Nat → Nat → Int) : Prop :=
  (a = none ∧ len = 0 ∧ cap = 0) ∨
  ∃ b off, a = some ⟨b, off, none⟩ ∧ (0 < len → b < w.heap.size) ∧ len ≤ cap ∧ cap ≤ maxLen ∧
    ∀ i, i < cap → ∀ j, j < S → w.cell? ⟨b, off + i * S + j, none⟩ = some (.int .i64 (F i j)) ∧ -9223372036854775808 ≤ F i j ∧ F i j ≤ 9223372036854775807

theorem open_rows {t e S : Nat} {a : Option Addr} {len cap : Nat} {d : DataW H} {ps : List MemPlace} {base : Nat} (ht : P.underlying t = some (.slice e)) (hS : P.cellsOf e = S) (h0 : 0 < S)
    (hfl : FlatInt enc P w (fun _ => true) e S)
    (h : DataW.Trod enc P w 0 (fun _ => true) true t (.slice a len cap) d ps) (hv : Value.okWide P w .any base t (.slice a len cap)) : ∃ F, IsRows w S a len cap F := by
  obtain ⟨fuel, hf⟩ := h
  rcases open_slice ht hf with ⟨hcs, _⟩ | ⟨x, l, c, m, n, D, Pl, hcs, hb, hl, hm, hmm, hx, hi⟩
  · simp [Value.cells] at hcs
    obtain ⟨rfl, rfl, rfl⟩ := hcs
    exact ⟨fun _ _ => 0, .inl ⟨rfl, rfl, rfl⟩⟩
  · simp [Value.cells] at hcs
    obtain ⟨rfl, rfl, rfl⟩ := hcs
    simp only [if_true] at hmm
    subst hmm
    have hsp : x.spot = none := by
      unfold Value.okWide at hv
      rw [ht] at hv
      simp only at hv
      unfold Cell.okWide at hv
      rw [ht] at hv
      simp only at hv
      unfold Cell.ok at hv
      rw [ht] at hv
      simp only at hv
      exact hv.2.2.2.1
    obtain ⟨b, off, spot⟩ := x
    simp only at hsp
    subst hsp
    have key : ∀ i j, i < m → j < S → ∃ v : Int, w.cell? ⟨b, off + i * S + j, none⟩ = some (.int .i64 v) ∧ -9223372036854775808 ≤ v ∧ v ≤ 9223372036854775807 := by
      intro i j him hjS
      obtain ⟨cs', hc, ht'⟩ := hi i him
      rw [hS] at hc
      obtain ⟨hlen, hfj⟩ := hfl _ _ _ ht'
      obtain ⟨v, hv', hb'⟩ := hfj j hjS
      obtain ⟨_, _, hat⟩ := World.cells?_some hc
      have hcell := hat j hjS
      refine ⟨v, ?_, hb'⟩
      rw [← hv', ← hcell]
      congr 1
      simp only [Addr.add]
      split <;> split <;> simp_all [Nat.add_assoc]
    refine ⟨fun i j => match w.cell? ⟨b, off + i * S + j, none⟩ with | some (.int _ n) => n | _ => 0, .inr ⟨b, off, rfl, fun hl0 => ?_, hl, hm, fun i him j hjS => ?_⟩⟩
    · obtain ⟨v, hv', _⟩ := key 0 0 (by omega) h0
      exact World.block_lt_of_cell? _ _ hv'
    · obtain ⟨v, hv', hb'⟩ := key i j him hjS
      simp only [hv']
      exact ⟨trivial, hb'⟩
end
end Go.Proofs.Ytdhcmnbajkpjiaa.Fr
/-
  An opener for a slice of bytes.
-/
namespace Go.Proofs.Ytdhcmnbajkpjiaa.Fr
open Go.ChangeShapes Go.WideShapes Go.ChangeAt Go.RowKit Go.Deep

section
variable {H : Type} {enc : TypeId × Value → H} {P : Program} {w : World}
theorem open_bytes {t e : Nat} {a : Option Addr} {len cap : Nat} {d : DataW H} {ps : List MemPlace} {base : Nat} (ht : P.underlying t = some (.slice e)) (he : P.underlying e = some (.int .u8)) (hS : P.cellsOf e = 1)
    (h : DataW.Trod enc P w 0 (fun _ => true) true t (.slice a len cap) d ps) (hv : Value.okWide P w .any base t (.slice a len cap)) : ∃ xs, BytesAt w a len xs := by
  obtain ⟨fuel, hf⟩ := h
  rcases open_slice ht hf with ⟨hcs, _⟩ | ⟨x, l, c, m, n, D, Pl, hcs, hb, hl, hm, hmm, hx, hi⟩
  · simp [Value.cells] at hcs
    obtain ⟨rfl, rfl, rfl⟩ := hcs
    exact ⟨[], rfl, by omega, by simp, fun h => absurd h (by omega)⟩
  · simp [Value.cells] at hcs
    obtain ⟨rfl, rfl, rfl⟩ := hcs
    simp only [if_true] at hmm
    subst hmm
    have hsp : x.spot = none := by
      unfold Value.okWide at hv
      rw [ht] at hv
      simp only at hv
      unfold Cell.okWide at hv
      rw [ht] at hv
      simp only at hv
      unfold Cell.ok at hv
      rw [ht] at hv
      simp only at hv
      exact hv.2.2.2.1
    obtain ⟨b, off, spot⟩ := x
    simp only at hsp
    subst hsp
    have key : ∀ i, i < m → ∃ v : Int, w.cell? ⟨b, off + i, none⟩ = some (.int .u8 v) ∧ 0 ≤ v ∧ v < 256 := by
      intro i him
      obtain ⟨cs', hc, ht'⟩ := hi i him
      rw [hS] at hc
      obtain ⟨n, rfl, _, hw⟩ := DataW.trod_int he ht'
      obtain ⟨_, _, hat⟩ := World.cells?_some hc
      have hcell := hat 0 (by omega)
      refine ⟨n, ?_, ?_⟩
      · have e : w.cell? ⟨b, off + i, none⟩ = [Value.int .u8 n][0]? := by
          rw [← hcell]
          congr 1
          simp only [Addr.add]
          split <;> simp_all
        rw [e]; rfl
      · have := bounds_u8 hw
        omega
    refine ⟨(List.range len).map (fun i => match w.cell? ⟨b, off + i, none⟩ with | some (.int _ n) => n | _ => 0), by simp, by unfold maxLen at hm; omega, ?_, fun hn => ⟨b, off, rfl, ?_, ?_⟩⟩
    · intro y hy
      obtain ⟨i, hi1, rfl⟩ := List.mem_map.1 hy
      obtain ⟨v, hv', hb'⟩ := key i (by have := List.mem_range.1 hi1; omega)
      simp only [hv']
      exact hb'
    · obtain ⟨v, hv', _⟩ := key 0 (by omega)
      exact World.block_lt_of_cell? _ _ hv'
    · intro i hil
      obtain ⟨v, hv', hb'⟩ := key i (by omega)
      simp [List.getD, hil, hv']
end
end Go.Proofs.Ytdhcmnbajkpjiaa.Fr
