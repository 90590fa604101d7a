/-
  Slices of ints in memory of the call's own (as PageC, for a seat without pages).
-/
import Derived.Test.YtdhcmnbajkpjiaaInts
import Derived.Test.YtdhcmnbajkpjiaaAppS
import Derived.Deep.OwnRows
import Derived.Laws.CopyOwn
namespace Go.Proofs.Ytdhcmnbajkpjiaa
open Go.RowKit
set_option linter.unusedVariables false
set_option linter.unusedSimpArgs false
attribute [local go_sem] drewN_alloc drewN_setCell

def cellsI (l : List Int) : List Value := l.map (Value.int .i64)
theorem cellsI_one' (l : List Int) : ∀ u ∈ cellsI l, u.oneCell' = true := by
  intro u hu
  obtain ⟨x, _, rfl⟩ := List.mem_map.1 hu
  simp [Value.oneCell']
theorem cellsI_get {l : List Int} {j : Nat} {u : Value} (h : (cellsI l)[j]? = some u) : j < l.length ∧ u = .int .i64 (l.getD j 0) := by
  unfold cellsI at h
  rw [List.getElem?_map] at h
  by_cases hj : j < l.length
  · simp [hj] at h
    exact ⟨hj, by simp [List.getD, hj, ← h]⟩
  · simp [hj] at h
/-- v is a slice in memory from block B on, the call's own, that holds l. -/
def OwnI (B : Nat) (w : World) (v : Value) (l : List Int) : Prop := w.ownsRow B 3 1 v l.length (cellsI l)
theorem OwnI.nil (B : Nat) (w : World) : OwnI B w (.slice none 0 0) [] := World.ownsRow_nil w B _ 1
theorem OwnI.keep {B : Nat} {w w' : World} {v : Value} {l : List Int} (h : OwnI B w v l) (k : Below w.heap.size w w') : OwnI B w' v l := by
  refine ⟨h.1, ?_⟩
  rcases h.2 with ⟨rfl, e⟩ | ⟨g, cap, cur, rfl, hb, hg, r⟩
  · exact .inl ⟨rfl, e⟩
  · refine .inr ⟨g, cap, cur, rfl, hb, ?_, r⟩
    have hlt : g < w.heap.size := by
      rcases Nat.lt_or_ge g w.heap.size with hl | hge
      · exact hl
      · rw [Array.getElem?_eq_none hge] at hg; cases hg
    exact (k.block g hlt).trans hg
theorem OwnI.mono {B B' : Nat} {w : World} {v : Value} {l : List Int} (h : OwnI B w v l) (hB : B' ≤ B) : OwnI B' w v l := by
  refine ⟨h.1, ?_⟩
  rcases h.2 with ⟨rfl, e⟩ | ⟨g, cap, cur, rfl, hb, r⟩
  · exact .inl ⟨rfl, e⟩
  · exact .inr ⟨g, cap, cur, rfl, by omega, r⟩
theorem OwnI.ints {B : Nat} {w : World} {v : Value} {l : List Int} (h : OwnI B w v l) : ∃ A c, v = .slice A l.length c ∧ IntsAt w A l.length l ∧ l.length ≤ c ∧ c ≤ 9223372036854775807 := by
  rcases h.2 with ⟨rfl, e⟩ | ⟨g, cap, cur, rfl, hb, hg, hn, hcm, hcs, hx⟩
  · obtain rfl := List.eq_nil_of_length_eq_zero e
    exact ⟨none, 0, rfl, IntsAt.nil, Nat.le_refl _, by omega⟩
  · have hcm' : cap ≤ 9223372036854775807 := by unfold maxLen at hcm; omega
    refine ⟨_, _, rfl, ⟨rfl, by omega, fun h0 => ⟨g, 0, rfl, ?_, fun i hi => ?_⟩⟩, hn, hcm'⟩
    · rcases Nat.lt_or_ge g w.heap.size with hl | hge
      · exact hl
      · rw [Array.getElem?_eq_none hge] at hg; cases hg
    · rw [Nat.zero_add, World.ownsRow.cellAt (w := w) (base := B) (e := 3) (size := 1) h i (by omega)]
      simp [cellsI, List.getD, hi]
theorem OwnI.of_row {B g n : Nat} {w : World} {l : List Int} (hB : B ≤ g) (hg : w.heap[g]? = some (.cells (cellsI l).toArray 3 (0, 0))) (hn : n = l.length) (hm : n ≤ 100000) : OwnI B w (.slice (some ⟨g, 0, none⟩) n n) l := by
  subst hn
  refine ⟨by simp [cellsI], .inr ⟨g, l.length, (cellsI l).toArray, rfl, hB, hg, Nat.le_refl _, by unfold maxLen; omega, by simp [cellsI], ?_⟩⟩
  simp [cellsI]
  rw [List.take_of_length_le (by simp)]
theorem IntsAt.srcI {w : World} {A : Option Addr} {n : Nat} {l : List Int} (h : IntsAt w A n l) : SrcS 1 w A n (cellsI l) := by
  by_cases h0 : 0 < n
  · obtain ⟨b, off, rfl, hb, hc⟩ := h.2.2 h0
    refine ⟨by rw [Nat.mul_one]; simp [cellsI, h.1], fun e => by simp at e, fun ad e j u hu => ?_⟩
    obtain rfl : (⟨b, off, none⟩ : Addr) = ad := by simpa using e
    obtain ⟨hj, rfl⟩ := cellsI_get hu
    rw [addr_addS]
    exact hc j (by rw [← h.1]; exact hj)
  · obtain rfl : n = 0 := by omega
    obtain rfl := List.eq_nil_of_length_eq_zero h.1
    exact ⟨rfl, fun _ => rfl, fun ad e j u hu => by simp [cellsI] at hu⟩
theorem IntsAt.cells {w : World} {A : Option Addr} {n : Nat} {l : List Int} (h : IntsAt w A n l) (h0 : 0 < (cellsI l).length) : ∃ ad, A = some ad ∧ ∀ j v, (cellsI l)[j]? = some v → w.cell? (ad.add j) = some v := by
  obtain ⟨b, off, rfl, hb, hc⟩ := h.2.2 (by rw [← h.1]; simpa [cellsI] using h0)
  exact ⟨_, rfl, h.srcI.2.2 _ rfl⟩
theorem infoInt : ∃ i : TypeInfo, Try.prog.info? 3 = some i ∧ i.zero = some (.int .i64 0) ∧ i.size = 1 ∧ i.bytes = 8 := by
  have h : (Try.prog.info? 3).map (fun i => (i.zero, i.size, i.bytes)) = some (some (.int .i64 0), 1, 8) := by kernel_rfl
  rcases hi : Try.prog.info? 3 with _ | i
  · rw [hi] at h; cases h
  · rw [hi] at h
    simp only [Option.map_some, Option.some.injEq, Prod.mk.injEq] at h
    exact ⟨i, rfl, h.1, h.2.1, h.2.2⟩
theorem cellsI_append (l m : List Int) : cellsI (l ++ m) = cellsI l ++ cellsI m := by simp [cellsI]
/-- append in a list of operations. -/
theorem app_listI {ops : Array Oper} {rest : List Oper} {o : Oper} {a : Act} {Q : Exit → Act → World → Prop} {w : World} (hgd : o.guard = none) (s x : Operand)
    (ho : o.op = .call { callee := .builtin .append, args := #[s, x], argTypes := #[27, 27] })
    (B : Nat) (v : Value) (l : List Int) (hsv : a.eval s = v) (hown : OwnI B w v l)
    (A : Option Addr) (m c : Nat) (l2 : List Int) (hx : a.eval x = .slice A m c) (hs : SrcS 1 w A m (cellsI l2)) (hlen : l.length + m ≤ 1048576) (hbase : B ≤ w.heap.size)
    (h : ∀ v' w', OwnI B w' v' (l ++ l2) → Below B w w' → wpList Try.prog ops Q rest (a.put o.dst v') w') : wpList Try.prog ops Q (o :: rest) a w := by
  obtain ⟨i, hi, hz, hsz, hby⟩ := infoInt
  refine wpList_append_S w hgd 1 (by decide) s x 27 ho B 3 i _ 8 Try.underlying27 hi hz hsz hby rfl v l.length _ hsv hown A m c _ hx hs (cellsI_one' l2) (by unfold maxLen; omega) (by omega) hbase (fun v' w' h2 h3 h4 => ?_)
  refine h v' w' ?_ ((Below.refl B w).grown h3 hbase (fun g hg => (hown.lt g hg).1))
  have hm : m = l2.length := by have := hs.1; simp only [cellsI, List.length_map] at this; omega
  unfold OwnI
  rw [cellsI_append, List.length_append, ← hm]
  exact h2
/-- append in a region that draws: at one operation. -/
theorem app_operI {o : Oper} {a : Act} {K : Act → World → Prop} {Q : Exit → Act → World → Prop} {w : World} (s x : Operand)
    (ho : o.op = .call { callee := .builtin .append, args := #[s, x], argTypes := #[27, 27] })
    (B : Nat) (v : Value) (l : List Int) (hsv : a.eval s = v) (hown : OwnI B w v l)
    (A : Option Addr) (m c : Nat) (l2 : List Int) (hx : a.eval x = .slice A m c) (hs : SrcS 1 w A m (cellsI l2)) (hlen : l.length + m ≤ 1048576) (hbase : B ≤ w.heap.size)
    (h : ∀ v' w', OwnI B w' v' (l ++ l2) → Below B w w' → K (a.put o.dst v') w') : o.wp Try.prog a w K Q := by
  obtain ⟨i, hi, hz, hsz, hby⟩ := infoInt
  refine wp_append_S w 1 (by decide) s x 27 ho B 3 i _ 8 Try.underlying27 hi hz hsz hby rfl v l.length _ hsv hown A m c _ hx hs (cellsI_one' l2) (by unfold maxLen; omega) (by omega) hbase (fun v' w' h2 h3 h4 => ?_)
  refine h v' w' ?_ ((Below.refl B w).grown h3 hbase (fun g hg => (hown.lt g hg).1))
  have hm : m = l2.length := by have := hs.1; simp only [cellsI, List.length_map] at this; omega
  unfold OwnI
  rw [cellsI_append, List.length_append, ← hm]
  exact h2
theorem splice_all {α : Type} (a b : List α) (h : a.length = b.length) : splice a 0 b = b := by
  simp [splice, ← h]
theorem sizeInt : (Try.prog.info? 3).map (·.size) = some 1 := by kernel_rfl
theorem OwnI.keepSet {B : Nat} {w : World} {v : Value} {l : List Int} (h : OwnI B w v l) (p : Addr) (u : Value) (hp : p.block < B) : OwnI B (w.setCell p u) v l := by
  refine ⟨h.1, ?_⟩
  rcases h.2 with ⟨rfl, e⟩ | ⟨g, cap, cur, rfl, hb, hg, r⟩
  · exact .inl ⟨rfl, e⟩
  · exact .inr ⟨g, cap, cur, rfl, hb, by rw [Below.heap_setCell _ _ _ _ (by omega)]; exact hg, r⟩
theorem OwnI.intsV {B n c : Nat} {w : World} {A : Option Addr} {l : List Int} (h : OwnI B w (.slice A n c) l) : IntsAt w A l.length l := by
  obtain ⟨A', c', e, i, _⟩ := h.ints
  cases e
  exact i
theorem src_oneI {w : World} {g : Nat} {x : Int} (h0 : w.cell? ⟨g, 0, none⟩ = some (.int .i64 x)) : SrcS 1 w (some ⟨g, 0, none⟩) 1 (cellsI [x]) := by
  refine ⟨by simp [cellsI], fun e => by simp at e, fun ad e j u hu => ?_⟩
  obtain rfl : (⟨g, 0, none⟩ : Addr) = ad := by simpa using e
  obtain ⟨hj, rfl⟩ := cellsI_get hu
  obtain rfl : j = 0 := by simpa using hj
  rw [addr_addS]
  exact h0
/-- append at one operation; what else the call owns stays. -/
theorem app_operI2 {o : Oper} {a : Act} {K : Act → World → Prop} {Q : Exit → Act → World → Prop} {w : World} (s x : Operand)
    (ho : o.op = .call { callee := .builtin .append, args := #[s, x], argTypes := #[27, 27] })
    (B : Nat) (v : Value) (l : List Int) (hsv : a.eval s = v) (hown : OwnI B w v l)
    (A : Option Addr) (m c : Nat) (l2 : List Int) (hx : a.eval x = .slice A m c) (hs : SrcS 1 w A m (cellsI l2)) (hlen : l.length + m ≤ 1048576) (hbase : B ≤ w.heap.size)
    (h : ∀ v' w', OwnI B w' v' (l ++ l2) → Below B w w' → (∀ B' v2 l', OwnI B' w v2 l' → (∀ k, v2.ownBlock = some k → v.ownBlock ≠ some k) → OwnI B' w' v2 l') → (v'.ownBlock = v.ownBlock ∨ v'.ownBlock = some w.heap.size) → w.heap.size ≤ w'.heap.size → K (a.put o.dst v') w') : o.wp Try.prog a w K Q := by
  obtain ⟨i, hi, hz, hsz, hby⟩ := infoInt
  refine wp_append_S w 1 (by decide) s x 27 ho B 3 i _ 8 Try.underlying27 hi hz hsz hby rfl v l.length _ hsv hown A m c _ hx hs (cellsI_one' l2) (by unfold maxLen; omega) (by omega) hbase (fun v' w' h2 h3 h4 => ?_)
  refine h v' w' ?_ ((Below.refl B w).grown h3 hbase (fun g hg => (hown.lt g hg).1)) (fun B' v2 l' h5 hne => ?_) h4 h3.size
  · have hm : m = l2.length := by have := hs.1; simp only [cellsI, List.length_map] at this; omega
    unfold OwnI
    rw [cellsI_append, List.length_append, ← hm]
    exact h2
  · refine ⟨h5.1, ?_⟩
    rcases h5.2 with ⟨rfl, e⟩ | ⟨g, cap, cur, rfl, hb, hg, r⟩
    · exact .inl ⟨rfl, e⟩
    · refine .inr ⟨g, cap, cur, rfl, hb, ?_, r⟩
      have hlt : g < w.heap.size := by
        rcases Nat.lt_or_ge g w.heap.size with hl | hge
        · exact hl
        · rw [Array.getElem?_eq_none hge] at hg; cases hg
      exact (h3.block g hlt (fun e => hne g rfl e.symm)).trans hg
theorem OwnI.ltB {B : Nat} {w : World} {v : Value} {l : List Int} (h : OwnI B w v l) (k : Nat) (e : v.ownBlock = some k) : B ≤ k ∧ k < w.heap.size := World.ownsRow.lt h k e
theorem own_emptyI (w : World) : OwnI w.heap.size (w.alloc (.cells #[] 3)) (.slice (some ⟨w.heap.size, 0, none⟩) 0 0) [] := own_emptyS 1 w 3
end Go.Proofs.Ytdhcmnbajkpjiaa
