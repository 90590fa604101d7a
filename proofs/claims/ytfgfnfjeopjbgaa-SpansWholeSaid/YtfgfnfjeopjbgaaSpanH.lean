/-
  Layer 8 (spans): slices of spans in memory of the call's own; append; '==' of spans.
-/
import Derived.Test.YtfgfnfjeopjbgaaSpanA
import Derived.Test.YtfgfnfjeopjbgaaSpanB
import Derived.Test.YtfgfnfjeopjbgaaAppS
import Derived.Laws.StructEq
namespace Go.Proofs.Ytfgfnfjeopjbgaa
open Go.RowKit
set_option linter.unusedVariables false
attribute [local go_sem] drewN_alloc drewN_setCell

def cellsS (l : List PS.Sp) : List Value := l.flatMap fun s => [.int .i64 s.1, .int .i64 s.2]
theorem cellsS_len (l : List PS.Sp) : (cellsS l).length = l.length * 2 := by
  induction l with
  | nil => rfl
  | cons s l ih => simp only [cellsS, List.flatMap_cons, List.length_append, List.length_cons, List.length_nil] at *; omega
theorem cellsS_append (l m : List PS.Sp) : cellsS (l ++ m) = cellsS l ++ cellsS m := by simp [cellsS]
theorem cellsS_one (s : PS.Sp) : cellsS [s] = [.int .i64 s.1, .int .i64 s.2] := by simp [cellsS]
theorem cellsS_get {l : List PS.Sp} : ∀ {k : Nat}, k < l.length → (cellsS l)[k * 2]? = some (.int .i64 (l.getD k (0, 0)).1) ∧ (cellsS l)[k * 2 + 1]? = some (.int .i64 (l.getD k (0, 0)).2) := by
  induction l with
  | nil => intro k h; simp at h
  | cons s l ih =>
    intro k h
    have e : cellsS (s :: l) = .int .i64 s.1 :: .int .i64 s.2 :: cellsS l := by simp [cellsS]
    rw [e]
    cases k with
    | zero => simp
    | succ k =>
      have := ih (k := k) (by simpa using h)
      rw [show (k + 1) * 2 = k * 2 + 1 + 1 by omega]
      simpa using this
theorem cellsS_one' (l : List PS.Sp) : ∀ u ∈ cellsS l, u.oneCell' = true := by
  intro u hu
  simp only [cellsS, List.mem_flatMap, List.mem_cons, List.not_mem_nil, or_false] at hu
  obtain ⟨s, _, rfl | rfl⟩ := hu <;> simp [Value.oneCell']

/-- A slice that reads as l is a source. -/
theorem SpansAt.src {w : World} {A : Option Addr} {n : Nat} {l : List PS.Sp} (h : SpansAt w A n l) : n = 0 ∨ SrcS 2 w A n (cellsS l) := by
  by_cases h0 : 0 < n
  · right
    obtain ⟨b, off, rfl, hb, hc⟩ := h.2.2.2 h0
    refine ⟨by rw [cellsS_len, h.1], fun e => by simp at e, fun ad e j u hu => ?_⟩
    obtain rfl : (⟨b, off, none⟩ : Addr) = ad := by simpa using e
    have hj : j < (cellsS l).length := by
      rcases Nat.lt_or_ge j (cellsS l).length with hj | hj
      · exact hj
      · rw [List.getElem?_eq_none hj] at hu; cases hu
    rw [cellsS_len, h.1] at hj
    rw [addr_addS]
    rcases Nat.mod_two_eq_zero_or_one j with e2 | e2
    · obtain ⟨q, rfl⟩ : ∃ q, j = q * 2 := ⟨j / 2, by omega⟩
      rw [(cellsS_get (by rw [h.1]; omega)).1] at hu
      rw [← hu]
      exact (hc q (by omega)).1
    · obtain ⟨q, rfl⟩ : ∃ q, j = q * 2 + 1 := ⟨j / 2, by omega⟩
      rw [(cellsS_get (by rw [h.1]; omega)).2] at hu
      rw [← hu]
      exact (hc q (by omega)).2
  · left; omega
theorem SpansAt.take {w : World} {A : Option Addr} {n k : Nat} {l : List PS.Sp} (h : SpansAt w A n l) (hk : k ≤ n) : SpansAt w A k (l.take k) := by
  have hl := h.1
  refine ⟨by simp; omega, by have := h.2.1; omega, fun s hs => h.2.2.1 s (List.mem_of_mem_take hs), fun h0 => ?_⟩
  obtain ⟨b, off, e, hb, hc⟩ := h.2.2.2 (by omega)
  refine ⟨b, off, e, hb, fun i hi => ?_⟩
  have : (l.take k).getD i (0, 0) = l.getD i (0, 0) := by simp [List.getD, hi]
  rw [this]
  exact hc i (by omega)
theorem SpansAt.drop {w : World} {b off n k : Nat} {l : List PS.Sp} (h : SpansAt w (some ⟨b, off, none⟩) n l) (hk : k ≤ n) : SpansAt w (some ⟨b, off + k * 2, none⟩) (n - k) (l.drop k) := by
  have hl := h.1
  refine ⟨by simp; omega, by have := h.2.1; omega, fun s hs => h.2.2.1 s (List.mem_of_mem_drop hs), fun h0 => ?_⟩
  obtain ⟨b', off', e, hb, hc⟩ := h.2.2.2 (by omega)
  obtain ⟨rfl, rfl⟩ : b = b' ∧ off = off' := by simpa using e
  refine ⟨b, off + k * 2, rfl, hb, fun i hi => ?_⟩
  have : (l.drop k).getD i (0, 0) = l.getD (k + i) (0, 0) := by simp [List.getD, List.getElem?_drop]
  rw [this]
  have := hc (k + i) (by omega)
  rw [show off + k * 2 + i * 2 = off + (k + i) * 2 by omega]
  exact this
theorem src0 {w : World} {A : Option Addr} : SrcS 2 w A 0 [] := ⟨by simp, fun _ => rfl, fun _ _ j u h => by simp at h⟩
theorem SpansAt.src' {w : World} {A : Option Addr} {n : Nat} {l : List PS.Sp} (h : SpansAt w A n l) : SrcS 2 w A n (cellsS l) := by
  rcases h.src with rfl | h'
  · obtain rfl := List.eq_nil_of_length_eq_zero h.1
    exact src0
  · exact h'
/-- A block that holds one span. -/
theorem src_one {w : World} {g : Nat} {s : PS.Sp} (h0 : w.cell? ⟨g, 0, none⟩ = some (.int .i64 s.1)) (h1 : w.cell? ⟨g, 1, none⟩ = some (.int .i64 s.2)) : SrcS 2 w (some ⟨g, 0, none⟩) 1 (cellsS [s]) := by
  refine ⟨by simp [cellsS], fun e => by simp at e, fun ad e j u hu => ?_⟩
  obtain rfl : (⟨g, 0, none⟩ : Addr) = ad := by simpa using e
  rw [addr_addS, Nat.zero_add]
  rw [cellsS_one] at hu
  match j, hu with
  | 0, hu => simp at hu; rw [← hu]; exact h0
  | 1, hu => simp at hu; rw [← hu]; exact h1

/-- v is a slice in memory from block B on, the call's own, that holds l. -/
def OwnS (B : Nat) (w : World) (v : Value) (l : List PS.Sp) : Prop := w.ownsRow B 37 2 v l.length (cellsS l)
theorem OwnS.nil (B : Nat) (w : World) : OwnS B w (.slice none 0 0) [] := World.ownsRow_nil w B _ 2
theorem OwnS.keep {B : Nat} {w w' : World} {v : Value} {l : List PS.Sp} (h : OwnS B w v l) (k : Below w.heap.size w w') : OwnS B w' v l := by
  refine ⟨h.1, ?_⟩
  rcases h.2 with ⟨rfl, e⟩ | ⟨g, cap, cur, rfl, hb, hg, r⟩
  · exact .inl ⟨rfl, e⟩
  · refine .inr ⟨g, cap, cur, rfl, hb, ?_, r⟩
    have hlt : g < w.heap.size := by
      rcases Nat.lt_or_ge g w.heap.size with hl | hge
      · exact hl
      · rw [Array.getElem?_eq_none hge] at hg; cases hg
    exact (k.block g hlt).trans hg
theorem OwnS.mono {B B' : Nat} {w : World} {v : Value} {l : List PS.Sp} (h : OwnS B w v l) (hB : B' ≤ B) : OwnS B' w v l := by
  refine ⟨h.1, ?_⟩
  rcases h.2 with ⟨rfl, e⟩ | ⟨g, cap, cur, rfl, hb, r⟩
  · exact .inl ⟨rfl, e⟩
  · exact .inr ⟨g, cap, cur, rfl, by omega, r⟩
theorem OwnS.spans {B : Nat} {w : World} {v : Value} {l : List PS.Sp} (h : OwnS B w v l) (hbd : ∀ s ∈ l, SpBd s) : ∃ A c, v = .slice A l.length c ∧ SpansAt w A l.length l ∧ l.length ≤ c ∧ c ≤ 9223372036854775807 := by
  rcases h.2 with ⟨rfl, e⟩ | ⟨g, cap, cur, rfl, hb, hg, hn, hcm, hcs, hx⟩
  · obtain rfl := List.eq_nil_of_length_eq_zero e
    exact ⟨none, 0, rfl, SpansAt.nil, Nat.le_refl _, by omega⟩
  · have hcm' : cap ≤ 9223372036854775807 := by unfold maxLen at hcm; omega
    refine ⟨_, _, rfl, ⟨rfl, by omega, hbd, fun h0 => ⟨g, 0, rfl, ?_, fun i hi => ?_⟩⟩, hn, hcm'⟩
    · rcases Nat.lt_or_ge g w.heap.size with hl | hge
      · exact hl
      · rw [Array.getElem?_eq_none hge] at hg; cases hg
    · have hat := fun j hj => World.ownsRow.cellAt (w := w) (base := B) (e := 37) (size := 2) h j hj
      rw [Nat.zero_add, hat (i * 2) (by omega), hat (i * 2 + 1) (by omega)]
      exact cellsS_get hi

theorem infoSpan : ∃ i : TypeInfo, Try.prog.info? 37 = some i ∧ i.zero = some (.agg #[.int .i64 0, .int .i64 0]) ∧ i.size = 2 ∧ i.bytes = 16 := by
  have h : (Try.prog.info? 37).map (fun i => (i.zero, i.size, i.bytes)) = some (some (.agg #[.int .i64 0, .int .i64 0]), 2, 16) := by kernel_rfl
  rcases hi : Try.prog.info? 37 with _ | i
  · rw [hi] at h; cases h
  · rw [hi] at h
    simp only [Option.map_some, Option.some.injEq, Prod.mk.injEq] at h
    exact ⟨i, rfl, h.1, h.2.1, h.2.2⟩

/-- append in a list of operations. -/
theorem app_list {ops : Array Oper} {rest : List Oper} {o : Oper} {a : Act} {Q : Exit → Act → World → Prop} {w : World} (hgd : o.guard = none) (s x : Operand)
    (ho : o.op = .call { callee := .builtin .append, args := #[s, x], argTypes := #[30, 30] })
    (B : Nat) (v : Value) (l : List PS.Sp) (hsv : a.eval s = v) (hown : OwnS B w v l)
    (A : Option Addr) (m c : Nat) (l2 : List PS.Sp) (hx : a.eval x = .slice A m c) (hs : SrcS 2 w A m (cellsS l2)) (hlen : l.length + m ≤ 1048576) (hbase : B ≤ w.heap.size)
    (h : ∀ v' w', OwnS B w' v' (l ++ l2) → Below B w w' → wpList Try.prog ops Q rest (a.put o.dst v') w') : wpList Try.prog ops Q (o :: rest) a w := by
  obtain ⟨i, hi, hz, hsz, hby⟩ := infoSpan
  refine wpList_append_S w hgd 2 (by decide) s x 30 ho B 37 i _ 16 Try.underlying30 hi hz hsz hby rfl v l.length _ hsv hown A m c _ hx hs (cellsS_one' l2) (by unfold maxLen; omega) (by omega) hbase (fun v' w' h2 h3 h4 => ?_)
  refine h v' w' ?_ ((Below.refl B w).grown h3 hbase (fun g hg => (hown.lt g hg).1))
  have hm : m = l2.length := by have := hs.1; rw [cellsS_len] at this; omega
  unfold OwnS
  rw [cellsS_append, List.length_append, ← hm]
  exact h2

/-- append in a region that draws: at one operation. -/
theorem app_oper {o : Oper} {a : Act} {K : Act → World → Prop} {Q : Exit → Act → World → Prop} {w : World} (s x : Operand)
    (ho : o.op = .call { callee := .builtin .append, args := #[s, x], argTypes := #[30, 30] })
    (B : Nat) (v : Value) (l : List PS.Sp) (hsv : a.eval s = v) (hown : OwnS B w v l)
    (A : Option Addr) (m c : Nat) (l2 : List PS.Sp) (hx : a.eval x = .slice A m c) (hs : SrcS 2 w A m (cellsS l2)) (hlen : l.length + m ≤ 1048576) (hbase : B ≤ w.heap.size)
    (h : ∀ v' w', OwnS B w' v' (l ++ l2) → Below B w w' → K (a.put o.dst v') w') : o.wp Try.prog a w K Q := by
  obtain ⟨i, hi, hz, hsz, hby⟩ := infoSpan
  refine wp_append_S w 2 (by decide) s x 30 ho B 37 i _ 16 Try.underlying30 hi hz hsz hby rfl v l.length _ hsv hown A m c _ hx hs (cellsS_one' l2) (by unfold maxLen; omega) (by omega) hbase (fun v' w' h2 h3 h4 => ?_)
  refine h v' w' ?_ ((Below.refl B w).grown h3 hbase (fun g hg => (hown.lt g hg).1))
  have hm : m = l2.length := by have := hs.1; rw [cellsS_len] at this; omega
  unfold OwnS
  rw [cellsS_append, List.length_append, ← hm]
  exact h2

theorem eql_span (a0 a1 b0 b1 : Int) (w : World) :
    (Op.equalIn 10000 37 (.agg #[.int .i64 a0, .int .i64 a1]) (.agg #[.int .i64 b0, .int .i64 b1])).run Try.prog w = .ok (a0 == b0 && a1 == b1) w := by
  have u3 := Try.underlying3
  have a3' := Try.isAgg3
  have z3 := Try.sizeOf3
  have hS : Try.prog.underlying 37 = some (.struct (Try.prog.fieldsOf 37)) := by kernel_rfl
  have hp : Try.prog.stoodInHeld 37 = false := by kernel_rfl
  rw [show (10000 : Nat) = 9999 + 1 from rfl, run_equalIn_agg w 9999 37 _ _ hS hp]
  simp only [Program.fieldsOf, Try.underlying37]
  go_simp
  by_cases h0 : a0 = b0 <;> by_cases h1 : a1 = b1 <;> simp [h0, h1]
end Go.Proofs.Ytfgfnfjeopjbgaa
