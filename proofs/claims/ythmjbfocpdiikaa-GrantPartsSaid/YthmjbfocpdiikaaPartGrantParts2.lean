/- Part 2 of the proof of GrantParts: lemmas, each with its conditions ahead of it. -/
import Derived.Test.YthmjbfocpdiikaaPartGrantParts1
import Derived.Deep.OwnRows
import Derived.Laws.CopyOwn
import Derived.WalkKit
import Derived.Deep.RegionHeld3
import Derived.RangeFuncNested
import Derived.RangeFuncBound
import Derived.RangeFuncCalls
import Derived.RangeFuncLeaves
import Derived.OwnWalkIn
import Derived.TacticsInMore
import Derived.LoopNIn
import Derived.LoopIn
import Derived.StillTailTactics
import Derived.Deep.Cut
/-
  Slices of ints in memory of the call's own (as PageC, for a seat without pages).
-/
namespace Go.Proofs.Ythmjbfocpdiikaa
open Go.RowKit
set_option linter.unusedVariables false
set_option linter.unusedSimpArgs false
attribute [local go_sem] drewN_alloc drewN_setCell

def cellsI (l : List Int) : List Value := l.map (Value.int .i64)
theorem cellsI_one' (l : List Int) : ∀ u ∈ cellsI l, u.oneCell' = true := by
  intro u hu
  obtain ⟨x, _, rfl⟩ := List.mem_map.1 hu
  simp [Value.oneCell']
theorem cellsI_get {l : List Int} {j : Nat} {u : Value} (h : (cellsI l)[j]? = some u) : j < l.length ∧ u = .int .i64 (l.getD j 0) := by
  unfold cellsI at h
  rw [List.getElem?_map] at h
  by_cases hj : j < l.length
  · simp [hj] at h
    exact ⟨hj, by simp [List.getD, hj, ← h]⟩
  · simp [hj] at h
/-- v is a slice in memory from block B on, the call's own, that holds l. -/
def OwnI (B : Nat) (w : World) (v : Value) (l : List Int) : Prop := w.ownsRow B 3 1 v l.length (cellsI l)
theorem OwnI.nil (B : Nat) (w : World) : OwnI B w (.slice none 0 0) [] := World.ownsRow_nil w B _ 1
theorem OwnI.keep {B : Nat} {w w' : World} {v : Value} {l : List Int} (h : OwnI B w v l) (k : Below w.heap.size w w') : OwnI B w' v l := by
  refine ⟨h.1, ?_⟩
  rcases h.2 with ⟨rfl, e⟩ | ⟨g, cap, cur, rfl, hb, hg, r⟩
  · exact .inl ⟨rfl, e⟩
  · refine .inr ⟨g, cap, cur, rfl, hb, ?_, r⟩
    have hlt : g < w.heap.size := by
      rcases Nat.lt_or_ge g w.heap.size with hl | hge
      · exact hl
      · rw [Array.getElem?_eq_none hge] at hg; cases hg
    exact (k.block g hlt).trans hg
theorem OwnI.mono {B B' : Nat} {w : World} {v : Value} {l : List Int} (h : OwnI B w v l) (hB : B' ≤ B) : OwnI B' w v l := by
  refine ⟨h.1, ?_⟩
  rcases h.2 with ⟨rfl, e⟩ | ⟨g, cap, cur, rfl, hb, r⟩
  · exact .inl ⟨rfl, e⟩
  · exact .inr ⟨g, cap, cur, rfl, by omega, r⟩
theorem OwnI.ints {B : Nat} {w : World} {v : Value} {l : List Int} (h : OwnI B w v l) : ∃ A c, v = .slice A l.length c ∧ IntsAt w A l.length l ∧ l.length ≤ c ∧ c ≤ 9223372036854775807 := by
  rcases h.2 with ⟨rfl, e⟩ | ⟨g, cap, cur, rfl, hb, hg, hn, hcm, hcs, hx⟩
  · obtain rfl := List.eq_nil_of_length_eq_zero e
    exact ⟨none, 0, rfl, IntsAt.nil, Nat.le_refl _, by omega⟩
  · have hcm' : cap ≤ 9223372036854775807 := by unfold maxLen at hcm; omega
    refine ⟨_, _, rfl, ⟨rfl, by omega, fun h0 => ⟨g, 0, rfl, ?_, fun i hi => ?_⟩⟩, hn, hcm'⟩
    · rcases Nat.lt_or_ge g w.heap.size with hl | hge
      · exact hl
      · rw [Array.getElem?_eq_none hge] at hg; cases hg
    · rw [Nat.zero_add, World.ownsRow.cellAt (w := w) (base := B) (e := 3) (size := 1) h i (by omega)]
      simp [cellsI, List.getD, hi]
theorem OwnI.of_row {B g n : Nat} {w : World} {l : List Int} (hB : B ≤ g) (hg : w.heap[g]? = some (.cells (cellsI l).toArray 3 (0, 0))) (hn : n = l.length) (hm : n ≤ 100000) : OwnI B w (.slice (some ⟨g, 0, none⟩) n n) l := by
  subst hn
  refine ⟨by simp [cellsI], .inr ⟨g, l.length, (cellsI l).toArray, rfl, hB, hg, Nat.le_refl _, by unfold maxLen; omega, by simp [cellsI], ?_⟩⟩
  simp [cellsI]
  rw [List.take_of_length_le (by simp)]
theorem IntsAt.srcI {w : World} {A : Option Addr} {n : Nat} {l : List Int} (h : IntsAt w A n l) : SrcS 1 w A n (cellsI l) := by
  by_cases h0 : 0 < n
  · obtain ⟨b, off, rfl, hb, hc⟩ := h.2.2 h0
    refine ⟨by rw [Nat.mul_one]; simp [cellsI, h.1], fun e => by simp at e, fun ad e j u hu => ?_⟩
    obtain rfl : (⟨b, off, none⟩ : Addr) = ad := by simpa using e
    obtain ⟨hj, rfl⟩ := cellsI_get hu
    rw [addr_addS]
    exact hc j (by rw [← h.1]; exact hj)
  · obtain rfl : n = 0 := by omega
    obtain rfl := List.eq_nil_of_length_eq_zero h.1
    exact ⟨rfl, fun _ => rfl, fun ad e j u hu => by simp [cellsI] at hu⟩
theorem IntsAt.cells {w : World} {A : Option Addr} {n : Nat} {l : List Int} (h : IntsAt w A n l) (h0 : 0 < (cellsI l).length) : ∃ ad, A = some ad ∧ ∀ j v, (cellsI l)[j]? = some v → w.cell? (ad.add j) = some v := by
  obtain ⟨b, off, rfl, hb, hc⟩ := h.2.2 (by rw [← h.1]; simpa [cellsI] using h0)
  exact ⟨_, rfl, h.srcI.2.2 _ rfl⟩
theorem infoInt : ∃ i : TypeInfo, Try.prog.info? 3 = some i ∧ i.zero = some (.int .i64 0) ∧ i.size = 1 ∧ i.bytes = 8 := by
  have h : (Try.prog.info? 3).map (fun i => (i.zero, i.size, i.bytes)) = some (some (.int .i64 0), 1, 8) := by kernel_rfl
  rcases hi : Try.prog.info? 3 with _ | i
  · rw [hi] at h; cases h
  · rw [hi] at h
    simp only [Option.map_some, Option.some.injEq, Prod.mk.injEq] at h
    exact ⟨i, rfl, h.1, h.2.1, h.2.2⟩
theorem cellsI_append (l m : List Int) : cellsI (l ++ m) = cellsI l ++ cellsI m := by simp [cellsI]
/-- append in a list of operations. -/
theorem app_listI {ops : Array Oper} {rest : List Oper} {o : Oper} {a : Act} {Q : Exit → Act → World → Prop} {w : World} (hgd : o.guard = none) (s x : Operand)
    (ho : o.op = .call { callee := .builtin .append, args := #[s, x], argTypes := #[41, 41] })
    (B : Nat) (v : Value) (l : List Int) (hsv : a.eval s = v) (hown : OwnI B w v l)
    (A : Option Addr) (m c : Nat) (l2 : List Int) (hx : a.eval x = .slice A m c) (hs : SrcS 1 w A m (cellsI l2)) (hlen : l.length + m ≤ 1048576) (hbase : B ≤ w.heap.size)
    (h : ∀ v' w', OwnI B w' v' (l ++ l2) → Below B w w' → wpList Try.prog ops Q rest (a.put o.dst v') w') : wpList Try.prog ops Q (o :: rest) a w := by
  obtain ⟨i, hi, hz, hsz, hby⟩ := infoInt
  refine wpList_append_S w hgd 1 (by decide) s x 41 ho B 3 i _ 8 Try.underlying41 hi hz hsz hby rfl v l.length _ hsv hown A m c _ hx hs (cellsI_one' l2) (by unfold maxLen; omega) (by omega) hbase (fun v' w' h2 h3 h4 => ?_)
  refine h v' w' ?_ ((Below.refl B w).grown h3 hbase (fun g hg => (hown.lt g hg).1))
  have hm : m = l2.length := by have := hs.1; simp only [cellsI, List.length_map] at this; omega
  unfold OwnI
  rw [cellsI_append, List.length_append, ← hm]
  exact h2
/-- append in a region that draws: at one operation. -/
theorem app_operI {o : Oper} {a : Act} {K : Act → World → Prop} {Q : Exit → Act → World → Prop} {w : World} (s x : Operand)
    (ho : o.op = .call { callee := .builtin .append, args := #[s, x], argTypes := #[41, 41] })
    (B : Nat) (v : Value) (l : List Int) (hsv : a.eval s = v) (hown : OwnI B w v l)
    (A : Option Addr) (m c : Nat) (l2 : List Int) (hx : a.eval x = .slice A m c) (hs : SrcS 1 w A m (cellsI l2)) (hlen : l.length + m ≤ 1048576) (hbase : B ≤ w.heap.size)
    (h : ∀ v' w', OwnI B w' v' (l ++ l2) → Below B w w' → K (a.put o.dst v') w') : o.wp Try.prog a w K Q := by
  obtain ⟨i, hi, hz, hsz, hby⟩ := infoInt
  refine wp_append_S w 1 (by decide) s x 41 ho B 3 i _ 8 Try.underlying41 hi hz hsz hby rfl v l.length _ hsv hown A m c _ hx hs (cellsI_one' l2) (by unfold maxLen; omega) (by omega) hbase (fun v' w' h2 h3 h4 => ?_)
  refine h v' w' ?_ ((Below.refl B w).grown h3 hbase (fun g hg => (hown.lt g hg).1))
  have hm : m = l2.length := by have := hs.1; simp only [cellsI, List.length_map] at this; omega
  unfold OwnI
  rw [cellsI_append, List.length_append, ← hm]
  exact h2
theorem splice_all {α : Type} (a b : List α) (h : a.length = b.length) : splice a 0 b = b := by
  simp [splice, ← h]
theorem sizeInt : (Try.prog.info? 3).map (·.size) = some 1 := by kernel_rfl
theorem OwnI.keepSet {B : Nat} {w : World} {v : Value} {l : List Int} (h : OwnI B w v l) (p : Addr) (u : Value) (hp : p.block < B) : OwnI B (w.setCell p u) v l := by
  refine ⟨h.1, ?_⟩
  rcases h.2 with ⟨rfl, e⟩ | ⟨g, cap, cur, rfl, hb, hg, r⟩
  · exact .inl ⟨rfl, e⟩
  · exact .inr ⟨g, cap, cur, rfl, hb, by rw [Below.heap_setCell _ _ _ _ (by omega)]; exact hg, r⟩
theorem OwnI.intsV {B n c : Nat} {w : World} {A : Option Addr} {l : List Int} (h : OwnI B w (.slice A n c) l) : IntsAt w A l.length l := by
  obtain ⟨A', c', e, i, _⟩ := h.ints
  cases e
  exact i
theorem src_oneI {w : World} {g : Nat} {x : Int} (h0 : w.cell? ⟨g, 0, none⟩ = some (.int .i64 x)) : SrcS 1 w (some ⟨g, 0, none⟩) 1 (cellsI [x]) := by
  refine ⟨by simp [cellsI], fun e => by simp at e, fun ad e j u hu => ?_⟩
  obtain rfl : (⟨g, 0, none⟩ : Addr) = ad := by simpa using e
  obtain ⟨hj, rfl⟩ := cellsI_get hu
  obtain rfl : j = 0 := by simpa using hj
  rw [addr_addS]
  exact h0
/-- append at one operation; what else the call owns stays. -/
theorem app_operI2 {o : Oper} {a : Act} {K : Act → World → Prop} {Q : Exit → Act → World → Prop} {w : World} (s x : Operand)
    (ho : o.op = .call { callee := .builtin .append, args := #[s, x], argTypes := #[41, 41] })
    (B : Nat) (v : Value) (l : List Int) (hsv : a.eval s = v) (hown : OwnI B w v l)
    (A : Option Addr) (m c : Nat) (l2 : List Int) (hx : a.eval x = .slice A m c) (hs : SrcS 1 w A m (cellsI l2)) (hlen : l.length + m ≤ 1048576) (hbase : B ≤ w.heap.size)
    (h : ∀ v' w', OwnI B w' v' (l ++ l2) → Below B w w' → (∀ B' v2 l', OwnI B' w v2 l' → (∀ k, v2.ownBlock = some k → v.ownBlock ≠ some k) → OwnI B' w' v2 l') → (v'.ownBlock = v.ownBlock ∨ v'.ownBlock = some w.heap.size) → w.heap.size ≤ w'.heap.size → K (a.put o.dst v') w') : o.wp Try.prog a w K Q := by
  obtain ⟨i, hi, hz, hsz, hby⟩ := infoInt
  refine wp_append_S w 1 (by decide) s x 41 ho B 3 i _ 8 Try.underlying41 hi hz hsz hby rfl v l.length _ hsv hown A m c _ hx hs (cellsI_one' l2) (by unfold maxLen; omega) (by omega) hbase (fun v' w' h2 h3 h4 => ?_)
  refine h v' w' ?_ ((Below.refl B w).grown h3 hbase (fun g hg => (hown.lt g hg).1)) (fun B' v2 l' h5 hne => ?_) h4 h3.size
  · have hm : m = l2.length := by have := hs.1; simp only [cellsI, List.length_map] at this; omega
    unfold OwnI
    rw [cellsI_append, List.length_append, ← hm]
    exact h2
  · refine ⟨h5.1, ?_⟩
    rcases h5.2 with ⟨rfl, e⟩ | ⟨g, cap, cur, rfl, hb, hg, r⟩
    · exact .inl ⟨rfl, e⟩
    · refine .inr ⟨g, cap, cur, rfl, hb, ?_, r⟩
      have hlt : g < w.heap.size := by
        rcases Nat.lt_or_ge g w.heap.size with hl | hge
        · exact hl
        · rw [Array.getElem?_eq_none hge] at hg; cases hg
      exact (h3.block g hlt (fun e => hne g rfl e.symm)).trans hg
theorem OwnI.ltB {B : Nat} {w : World} {v : Value} {l : List Int} (h : OwnI B w v l) (k : Nat) (e : v.ownBlock = some k) : B ≤ k ∧ k < w.heap.size := World.ownsRow.lt h k e
theorem own_emptyI (w : World) : OwnI w.heap.size (w.alloc (.cells #[] 3)) (.slice (some ⟨w.heap.size, 0, none⟩) 0 0) [] := own_emptyS 1 w 3
end Go.Proofs.Ythmjbfocpdiikaa
/-
  The reference of layer 28: in, Taken, Order.
-/
namespace Go.Proofs.Ythmjbfocpdiikaa
open Go.RowKit
set_option linter.unusedVariables false
set_option linter.unusedSimpArgs false
attribute [local go_sem] drewN_alloc drewN_setCell

def InRel (w : World) (xs : List Int) (x : Int) (n : Nat) (i : Value) (wr : World) : Prop :=
  ∃ k : Nat, k ≤ n ∧ i = .int .i64 k ∧ (∀ j, j < k → xs.getD j 0 ≠ x) ∧ Below w.heap.size w wr
theorem mem_of_at {xs : List Int} {x : Int} {k : Nat} (hk : k < xs.length) (h : xs.getD k 0 = x) : decide (x ∈ xs) = true := by
  have e : xs.getD k 0 = xs[k] := by simp [List.getD, hk]
  rw [e] at h
  exact decide_eq_true (h ▸ List.getElem_mem hk)
theorem mem_of_not {xs : List Int} {x : Int} (h : ∀ j, j < xs.length → xs.getD j 0 ≠ x) : decide (x ∈ xs) = false := by
  refine decide_eq_false (fun hm => ?_)
  obtain ⟨j, hj, e⟩ := List.mem_iff_getElem.1 hm
  exact h j hj (by simp [List.getD, hj, e])

set_option maxHeartbeats 4000000 in
theorem ref28_in {A : Option Addr} {n : Nat} {xs : List Int} (c : Nat) (x : Int) {w : World} (h : IntsAt w A n xs) :
    Calls Try.prog 74 #[.slice A n c, .int .i64 x] w fun e w' => e = .returned (.bool (decide (x ∈ xs))) ∧ Below w.heap.size w w' := by
  obtain ⟨R, hR⟩ : ∃ R, decide (x ∈ xs) = R := ⟨_, rfl⟩
  rw [hR]
  have HR := Lib.hid hR
  have HX := Lib.hid h.1
  have HN := h.2.1
  have HC := Lib.hid h.2.2
  clear hR h
  go_enter Try.func74, Try.ntmps74
  go_wp2_with fail
  go_loopw [5] (fun i wr => InRel w xs x n i wr) (fun i _ => n - (intOf i).toNat)
  case atStart => exact ⟨0, Nat.zero_le _, rfl, fun j hj => absurd hj (by omega), Below.refl _ _⟩
  case round =>
    obtain ⟨k, hk, rfl, hnot, hbel⟩ := hrel
    have HNOT := Lib.hid hnot
    clear hnot
    have j1 : (0 : Int) ≤ (k : Int) := by omega
    by_cases hlt : (k : Int) < n
    · obtain ⟨b, off, rfl, hb, hcs⟩ := HC.out (by omega)
      have x0 := (hbel.cell (p := ⟨b, off + k, none⟩) hb).trans (hcs k (by omega))
      obtain ⟨y, hy⟩ : ∃ y, xs.getD k 0 = y := ⟨_, rfl⟩
      rw [hy] at x0
      have HY := Lib.hid hy
      clear hy hcs
      by_cases hq : y = x
      · have HE : Hid (true = R) := Lib.hid ((mem_of_at (by rw [HX.out]; omega) (HY.out.trans hq)).symm.trans HR.out)
        have q1 : (y == x) = true := by simpa using hq
        clear hq
        go_wp2_with fail
        go_ret
        exact ⟨ret_bool HE.out, (by repeat (first | exact Below.refl _ _ | assumption | refine bel_drew ?_ | refine bel_drewN ?_ _ | refine bel_alloc ?_ _ | refine bel_set ?_ (by first | (dsimp only; omega) | (simp; done) | (simp; omega)) _ | refine bel_trans ?_ (by assumption)))⟩
      · have HE : Hid (∀ j, j < k + 1 → xs.getD j 0 ≠ x) := Lib.hid (fun j hj => by
          rcases Nat.lt_or_ge j k with h1 | h1
          · exact HNOT.out j h1
          · obtain rfl : j = k := by omega
            rw [HY.out]; exact hq)
        have q1 : (y == x) = false := by simpa using hq
        clear hq
        go_wp2_with fail
        go_roundw
        case rel => exact ⟨k + 1, by omega, by go_num, HE.out, (by repeat (first | exact Below.refl _ _ | assumption | refine bel_drew ?_ | refine bel_drewN ?_ _ | refine bel_alloc ?_ _ | refine bel_set ?_ (by first | (dsimp only; omega) | (simp; done) | (simp; omega)) _ | refine bel_trans ?_ (by assumption)))⟩
        case measure => simp [intOf]; omega
    · have HE : Hid (false = R) := Lib.hid ((mem_of_not (fun j hj => HNOT.out j (by rw [HX.out] at hj; omega))).symm.trans HR.out)
      go_wp2_with fail
      go_ret
      exact ⟨ret_bool HE.out, (by repeat (first | exact Below.refl _ _ | assumption | refine bel_drew ?_ | refine bel_drewN ?_ _ | refine bel_alloc ?_ _ | refine bel_set ?_ (by first | (dsimp only; omega) | (simp; done) | (simp; omega)) _ | refine bel_trans ?_ (by assumption)))⟩

def lenV : Value → Nat
  | .slice _ n _ => n
  | _ => 0
def boolV : Value → Nat
  | .bool true => 1
  | _ => 0
def TakeRel (w : World) (l : List PO.Mem) (R : List Nat) (fr out mo : Value) (wr : World) : Prop :=
  ∃ (k : Nat) (f : Int) (done : List Nat) (b : Bool) (A : Option Addr) (c : Nat), fr = .int .i64 f ∧ mo = .bool b ∧ out = .slice A done.length c ∧ OwnI w.heap.size wr (.slice A done.length c) (PO.ints done) ∧ Below w.heap.size w wr ∧
    PO.Good l k f done ∧ (b = true → PO.taken l k f done = R) ∧ (b = false → done = R)
def ScanRel (w : World) (l : List PO.Mem) (f : Int) (done : List Nat) (fr out mo i : Value) (wr : World) : Prop :=
  ∃ (j : Nat) (A : Option Addr) (c : Nat), i = .int .i64 j ∧ j ≤ l.length ∧ Below w.heap.size w wr ∧
    ((mo = .bool false ∧ fr = .int .i64 f ∧ out = .slice A done.length c ∧ OwnI w.heap.size wr (.slice A done.length c) (PO.ints done) ∧ ∀ j', j' < j → j' ∈ done ∨ f < PO.need (l.getD j' PO.m0)) ∨
     (∃ i0, mo = .bool true ∧ PO.next f l done = some i0 ∧ fr = .int .i64 (f + (l.getD i0 PO.m0).2.2.1) ∧ out = .slice A (done.length + 1) c ∧ OwnI w.heap.size wr (.slice A (done.length + 1) c) (PO.ints (done ++ [i0]))))
theorem OwnI.slice {B : Nat} {w : World} {v : Value} {d : List Nat} (h : OwnI B w v (PO.ints d)) : ∃ A c, v = .slice A d.length c ∧ IntsAt w A d.length (PO.ints d) := by
  obtain ⟨A, c, e, i, _⟩ := h.ints
  rw [PO.ints_len] at e i
  exact ⟨A, c, e, i⟩

set_option maxRecDepth 100000 in
set_option maxHeartbeats 8000000 in
theorem ref28_Taken {A : Option Addr} {n : Nat} {l : List PO.Mem} (c : Nat) (free : Int) {w : World} (h : MemAt w A n l) (hn : n ≤ 1000) (hm : PO.may free l = true) :
    Calls Try.prog 65 #[.int .i64 free, .slice A n c] w fun e w' => ∃ v, e = .returned v ∧ OwnI w.heap.size w' v (PO.ints (PO.takenAll free l)) ∧ Below w.heap.size w w' := by
  obtain ⟨R, hR⟩ : ∃ R, PO.takenAll free l = R := ⟨_, rfl⟩
  rw [hR]
  have hst := PO.good_start hm
  have HA : Hid (l.all PO.ok = true) := Lib.hid (PO.may_iff.1 hm).2.2
  have HX := Lib.hid h.1
  have HB := Lib.hid (fun k (hk : k < n) => h.bd hk)
  have HC := Lib.hid h.2.2.2
  have HR := Lib.hid hR
  replace hst := Lib.hid hst
  clear hR h hm
  go_enter Try.func65, Try.ntmps65
  go_wp2_with fail
  go_loopw [0, 5, 6] (fun fr out mo wr => TakeRel w l R fr out mo wr) (fun _ out mo _ => 2 * (n - lenV out) + boolV mo)
  case atStart => exact ⟨l.length, free, [], true, none, 0, rfl, rfl, rfl, OwnI.nil _ _, (by repeat (first | exact Below.refl _ _ | assumption | refine bel_drew ?_ | refine bel_drewN ?_ _ | refine bel_alloc ?_ _ | refine bel_set ?_ (by first | (dsimp only; omega) | (simp; done) | (simp; omega)) _ | refine bel_trans ?_ (by assumption))), hst.out, fun _ => HR.out, fun h => by cases h⟩
  case round =>
    obtain ⟨k, f, done, b, A', c', rfl, rfl, rfl, ho, hbel, hg, hb1, hb0⟩ := hrel
    have HG := Lib.hid hg
    have HO := Lib.hid ho
    rcases b with _ | _
    · have HE := Lib.hid (hb0 rfl)
      clear hb1 hb0 hg ho
      go_wp2_with fail
      go_ret
      exact ⟨_, rfl, by rw [← HE.out]; exact HO.out, (by repeat (first | exact Below.refl _ _ | assumption | refine bel_drew ?_ | refine bel_drewN ?_ _ | refine bel_alloc ?_ _ | refine bel_set ?_ (by first | (dsimp only; omega) | (simp; done) | (simp; omega)) _ | refine bel_trans ?_ (by assumption)))⟩
    · have HE := Lib.hid (hb1 rfl)
      clear hb1 hb0 hg ho
      go_wp2_with fail
      go_loopw [0, 5, 6, 7] (fun fr out mo i wr => ScanRel w l f done fr out mo i wr) (fun _ _ _ i _ => n - (intOf i).toNat)
      case atStart => exact ⟨0, A', c', rfl, Nat.zero_le _, (by repeat (first | exact Below.refl _ _ | assumption | refine bel_drew ?_ | refine bel_drewN ?_ _ | refine bel_alloc ?_ _ | refine bel_set ?_ (by first | (dsimp only; omega) | (simp; done) | (simp; omega)) _ | refine bel_trans ?_ (by assumption))), .inl ⟨rfl, rfl, rfl, HO.out, fun j hj => absurd hj (by omega)⟩⟩
      case round =>
        obtain ⟨j, A2, c2, rfl, hj, hbel2, (⟨rfl, rfl, rfl, ho2, hnot⟩ | ⟨i0, rfl, hnx, rfl, rfl, ho2⟩)⟩ := hrel
        · have HNOT := Lib.hid hnot
          have HO2 := Lib.hid ho2
          rw [HX.out] at hj
          clear hnot ho2
          have j1 : (0 : Int) ≤ (j : Int) := by omega
          by_cases hlt : (j : Int) < n
          · obtain ⟨b, off, rfl, hb, hcs⟩ := HC.out (by omega)
            have HCS := Lib.hid (hcs j (by omega))
            have bd := HB.out j (by omega)
            clear hcs
            have hjl : j < l.length := by rw [HX.out]; omega
            obtain ⟨A2', c2', e2, i2⟩ := HO2.out.slice
            obtain ⟨rfl, rfl⟩ : A2 = A2' ∧ c2 = c2' := by simpa using e2
            have KI := ref28_in c2 (j : Int) i2
            clear e2 i2
            obtain ⟨m, hmm⟩ : ∃ m, l.getD j PO.m0 = m := ⟨_, rfl⟩
            rw [hmm] at HCS bd
            have hok := PO.ok_held (PO.ok_get HA.out hjl)
            rw [hmm] at hok
            have HM := Lib.hid hmm
            have KN := fun W => ref26_Need m.2.1 m.2.2.1 m.2.2.2 W bd.2.1 bd.2.2.1 bd.2.2.2
            clear hmm bd
            by_cases hin : j ∈ done
            · rw [decide_eq_true (PO.in_ints.2 hin)] at KI
              have HE2 : Hid (∀ j', j' < j + 1 → j' ∈ done ∨ f < PO.need (l.getD j' PO.m0)) := Lib.hid (fun j' h' => by
                rcases Nat.lt_or_ge j' j with h1 | h1
                · exact HNOT.out j' h1
                · obtain rfl : j' = j := by omega
                  exact .inl hin)
              replace KI := Lib.hid KI
              clear KN hin hok hjl
              go_wp2_with fail
              refine KI.out.mono ?_
              rintro e w3 ⟨rfl, h3⟩
              go_wp2_with fail
              go_roundw
              case rel => exact ⟨j + 1, A2, c2, by go_num, by rw [HX.out]; omega, (by repeat (first | exact Below.refl _ _ | assumption | refine bel_drew ?_ | refine bel_drewN ?_ _ | refine bel_alloc ?_ _ | refine bel_set ?_ (by first | (dsimp only; omega) | (simp; done) | (simp; omega)) _ | refine bel_trans ?_ (by assumption))), .inl ⟨rfl, rfl, rfl, HO2.out.keep h3, HE2.out⟩⟩
              case measure => simp [intOf]; omega
            · rw [decide_eq_false (fun h => hin (PO.in_ints.1 h))] at KI
              replace KI := Lib.hid KI
              by_cases hne : PO.need m ≤ f
              · have HNX : Hid (PO.next f l done = some j) := Lib.hid (PO.next_some.2 ⟨hjl, hin, by rw [HM.out]; exact hne, HNOT.out⟩)
                have hf0 : 0 ≤ f := HG.out.2.2.2.1
                have hdl : done.length ≤ n := by have := HG.out.2.2.1; have := HX.out; omega
                have hf1 : f ≤ 2000000000 := by have := HG.out.2.2.2.2; omega
                obtain ⟨k1, k2⟩ := hok
                have hne' : PA.need m.2.1 m.2.2.1 m.2.2.2 ≤ f := hne
                generalize PA.need m.2.1 m.2.2.1 m.2.2.2 = nd at *
                have g1 : decide (nd ≤ f) = true := decide_eq_true hne'
                have wf : IntKind.i64.wrap (f + m.2.2.1) = f + m.2.2.1 := IntWalk.i64_in _ (by omega)
                replace KN := Lib.hid KN
                have HDL := Lib.hid hdl
                clear hin hjl hne hne' hdl
                go_wp2_with fail
                refine KI.out.mono ?_
                rintro e w3 ⟨rfl, h3⟩
                have b3 := bel_trans hbel2 h3
                obtain ⟨x0, x1, x2, x3⟩ := HCS.out.keep b3 hb
                go_wp2_with fail
                refine (KN.out _).mono ?_
                rintro e w4 ⟨rfl, h4⟩
                have b4 := bel_trans b3 h4
                clear x0 x1 x2 x3
                obtain ⟨x0, x1, x2, x3⟩ := HCS.out.keep b4 hb
                go_wp2_with (at_builtin; refine app_listI rfl (.tmp 41) (.tmp 43) rfl w.heap.size _ (PO.ints done) rfl (HO2.out.keep (bel_alloc (bel_trans h3 h4) _)) (some ⟨w4.heap.size, 0, none⟩) 1 1 [(j : Int)] rfl (src_oneI (by simp [go_sem])) (by rw [PO.ints_len]; have := HDL.out; omega) (by have := b4.size; simp; omega) ?_; intro v9 w9 ho9 hb9; rw [← PO.ints_snoc] at ho9; obtain ⟨A9, c9, rfl, _⟩ := ho9.slice; rw [List.length_append] at ho9; replace ho9 := Lib.hid ho9; have b9 := bel_trans' (show Below w.heap.size w _ from (by repeat (first | exact Below.refl _ _ | assumption | refine bel_drew ?_ | refine bel_drewN ?_ _ | refine bel_alloc ?_ _ | refine bel_set ?_ (by first | (dsimp only; omega) | (simp; done) | (simp; omega)) _ | refine bel_trans ?_ (by assumption)))) hb9 (Nat.le_refl _))
                go_roundw
                case rel => exact ⟨j + 1, A9, c9, by go_num, by rw [HX.out]; omega, (by repeat (first | exact Below.refl _ _ | assumption | refine bel_drew ?_ | refine bel_drewN ?_ _ | refine bel_alloc ?_ _ | refine bel_set ?_ (by first | (dsimp only; omega) | (simp; done) | (simp; omega)) _ | refine bel_trans ?_ (by assumption))), .inr ⟨j, rfl, HNX.out, by rw [HM.out], by simp, ho9.out⟩⟩
                case measure => simp [intOf]; omega
              · have HE2 : Hid (∀ j', j' < j + 1 → j' ∈ done ∨ f < PO.need (l.getD j' PO.m0)) := Lib.hid (fun j' h' => by
                  rcases Nat.lt_or_ge j' j with h1 | h1
                  · exact HNOT.out j' h1
                  · obtain rfl : j' = j := by omega
                    exact .inr (by rw [HM.out]; omega))
                have hne' : ¬ PA.need m.2.1 m.2.2.1 m.2.2.2 ≤ f := hne
                generalize PA.need m.2.1 m.2.2.1 m.2.2.2 = nd at *
                have g1 : decide (nd ≤ f) = false := decide_eq_false hne'
                replace KN := Lib.hid KN
                clear hin hok hjl hne hne'
                go_wp2_with fail
                refine KI.out.mono ?_
                rintro e w3 ⟨rfl, h3⟩
                have b3 := bel_trans hbel2 h3
                obtain ⟨x0, x1, x2, x3⟩ := HCS.out.keep b3 hb
                go_wp2_with fail
                refine (KN.out _).mono ?_
                rintro e w4 ⟨rfl, h4⟩
                go_wp2_with fail
                go_roundw
                case rel => exact ⟨j + 1, A2, c2, by go_num, by rw [HX.out]; omega, (by repeat (first | exact Below.refl _ _ | assumption | refine bel_drew ?_ | refine bel_drewN ?_ _ | refine bel_alloc ?_ _ | refine bel_set ?_ (by first | (dsimp only; omega) | (simp; done) | (simp; omega)) _ | refine bel_trans ?_ (by assumption))), .inl ⟨rfl, rfl, rfl, (HO2.out.keep h3).keep h4, HE2.out⟩⟩
                case measure => simp [intOf]; omega
          · have HNX : PO.next f l done = none := PO.next_none (fun j' h' => HNOT.out j' (by rw [HX.out] at h'; omega))
            have HE2 : Hid (done = R) := Lib.hid ((PO.taken_none HNX).symm.trans HE.out)
            clear HNX
            go_wp2_with fail
            go_roundw
            case rel => exact ⟨k, f, done, false, A2, c2, rfl, rfl, rfl, HO2.out, (by repeat (first | exact Below.refl _ _ | assumption | refine bel_drew ?_ | refine bel_drewN ?_ _ | refine bel_alloc ?_ _ | refine bel_set ?_ (by first | (dsimp only; omega) | (simp; done) | (simp; omega)) _ | refine bel_trans ?_ (by assumption))), HG.out, (fun h => by cases h), fun _ => HE2.out⟩
            case measure => simp [lenV, boolV]
        · have HNX := Lib.hid hnx
          have HO2 := Lib.hid ho2
          have HE2 : Hid (∃ k', k = k' + 1 ∧ PO.Good l k' (f + (l.getD i0 PO.m0).2.2.1) (done ++ [i0]) ∧ PO.taken l k' (f + (l.getD i0 PO.m0).2.2.1) (done ++ [i0]) = R) := Lib.hid (by
            obtain ⟨k', rfl, hg⟩ := PO.good_next HA.out HG.out hnx
            exact ⟨k', rfl, hg, (PO.taken_some hnx).symm.trans HE.out⟩)
          have hdl : done.length < n := by
            obtain ⟨k', e, _⟩ := HE2.out
            have := HG.out.2.2.1
            have := HX.out
            omega
          rw [HX.out] at hj
          generalize f + (l.getD i0 PO.m0).2.2.1 = f2 at *
          clear hnx ho2
          have fin : TakeRel w l R (.int .i64 f2) (.slice A2 (done.length + 1) c2) (.bool true) wr := by
            obtain ⟨k', e, hg, ht⟩ := HE2.out
            exact ⟨k', f2, done ++ [i0], true, A2, c2, rfl, rfl, by simp, by simpa using HO2.out, hbel2, hg, (fun _ => ht), (fun h => by cases h)⟩
          replace fin := Lib.hid fin
          by_cases hlt : (j : Int) < n
          · go_wp2_with fail
            go_roundw
            case rel => exact fin.out
            case measure => simp [lenV, boolV]; omega
          · go_wp2_with fail
            go_roundw
            case rel => exact fin.out
            case measure => simp [lenV, boolV]; omega

theorem ref28_Order {A : Option Addr} {n : Nat} {l : List PO.Mem} (c : Nat) (free : Int) {w : World} (h : MemAt w A n l) (hn : n ≤ 1000) :
    Calls Try.prog 37 #[.int .i64 free, .slice A n c] w fun e w' => ∃ v, e = .returned (.tuple #[v, .bool (PO.order free l).2]) ∧ OwnI w.heap.size w' v (PO.ints (PO.order free l).1) ∧ Below w.heap.size w w' := by
  have K1 := ref28_May c free h
  have HX := h.1
  have e : PO.order free l = (if PO.may free l = false then ([], false) else if (PO.takenAll free l).length < l.length then ([], false) else (PO.takenAll free l, true)) := rfl
  have K2 : PO.may free l = true → ∀ W, Below w.heap.size w W → Calls Try.prog 65 #[.int .i64 free, .slice A n c] W fun e w' => ∃ v, e = .returned v ∧ OwnI W.heap.size w' v (PO.ints (PO.takenAll free l)) ∧ Below W.heap.size W w' := fun hm W hW => ref28_Taken c free (h.keep hW) hn hm
  generalize PO.order free l = R at *
  generalize PO.may free l = q at *
  generalize PO.takenAll free l = d at *
  clear h
  rcases q with _ | _
  · rw [if_pos rfl] at e
    subst e
    replace K1 := Lib.hid K1
    clear K2
    go_enter Try.func37, Try.ntmps37
    go_wp2_with fail
    refine K1.out.mono ?_
    rintro e w1 ⟨rfl, h1⟩
    go_wp2_with fail
    exact bodyPost_ret (v := .tuple #[.slice none 0 0, .bool false]) (by simp [results, Try.results37, go_sem]) rfl ⟨_, rfl, OwnI.nil _ _, (by repeat (first | exact Below.refl _ _ | assumption | refine bel_drew ?_ | refine bel_drewN ?_ _ | refine bel_alloc ?_ _ | refine bel_set ?_ (by first | (dsimp only; omega) | (simp; done) | (simp; omega)) _ | refine bel_trans ?_ (by assumption)))⟩
  · rw [if_neg (by simp), HX] at e
    replace K1 := Lib.hid K1
    have K3 := Lib.hid (K2 rfl)
    clear K2
    by_cases hd : d.length < n
    · rw [if_pos hd] at e
      subst e
      have g1 : (d.length : Int) < (n : Int) := by omega
      clear hd
      go_enter Try.func37, Try.ntmps37
      go_wp2_with fail
      refine K1.out.mono ?_
      rintro e w1 ⟨rfl, h1⟩
      go_wp2_with fail
      refine (K3.out _ h1).mono ?_
      rintro e w2 ⟨v2, rfl, ho2, h2⟩
      obtain ⟨A2, c2, rfl, _⟩ := ho2.slice
      clear ho2
      go_wp2_with fail
      exact bodyPost_ret (v := .tuple #[.slice none 0 0, .bool false]) (by simp [results, Try.results37, go_sem]) rfl ⟨_, rfl, OwnI.nil _ _, (by repeat (first | exact Below.refl _ _ | assumption | refine bel_drew ?_ | refine bel_drewN ?_ _ | refine bel_alloc ?_ _ | refine bel_set ?_ (by first | (dsimp only; omega) | (simp; done) | (simp; omega)) _ | refine bel_trans ?_ (by assumption)))⟩
    · rw [if_neg hd] at e
      subst e
      have g1 : ¬ (d.length : Int) < (n : Int) := by omega
      clear hd
      go_enter Try.func37, Try.ntmps37
      go_wp2_with fail
      refine K1.out.mono ?_
      rintro e w1 ⟨rfl, h1⟩
      go_wp2_with fail
      refine (K3.out _ h1).mono ?_
      rintro e w2 ⟨v2, rfl, ho2, h2⟩
      obtain ⟨A2, c2, rfl, _⟩ := ho2.slice
      have HO := Lib.hid (ho2.mono h1.size)
      clear ho2
      go_wp2_with fail
      exact bodyPost_ret (v := .tuple #[.slice A2 d.length c2, .bool true]) (by simp [results, Try.results37, go_sem]) rfl ⟨_, rfl, HO.out, (by repeat (first | exact Below.refl _ _ | assumption | refine bel_drew ?_ | refine bel_drewN ?_ _ | refine bel_alloc ?_ _ | refine bel_set ?_ (by first | (dsimp only; omega) | (simp; done) | (simp; omega)) _ | refine bel_trans ?_ (by assumption)))⟩
end Go.Proofs.Ythmjbfocpdiikaa
/-
  The moves of a walk through a region that draws its order, one operation after the other, whatever the guards say.
-/
namespace Go.Proofs.Ythmjbfocpdiikaa
open Go.RowKit

section
variable {P : Program} {ops : Array Oper} {Q : Exit → Act → World → Prop} {md : Region.Mode} {S : World → Prop}

theorem at_list {i : Nat} {oi : Oper} (h : ops.toList[i]? = some oi) : ops[i]? = some oi := by simpa using h

/-- An operation that is carried out, and yields v in every world that meets S. -/
theorem tk_yes (i : Nat) {oi : Oper} {v : Value} {fuel : Nat} {listed : Array Bool} {a : Act} {w : World} (hi : ops.toList[i]? = some oi)
    (hs : Region.noSelect ops = true) (hf : Region.free md ops listed i = true) (hr : (Region.ready md ops listed).contains i = true)
    (hQ : ∀ c a w, Q (.panic c) (a.put oi.dst v) w → Q (.panic c) a w) (hw : Region.wanted oi (yielded ops a.tmps) = true) (hS : S w)
    (hy : ∀ w, S w → (execOp a.eval oi).run P w = .ok (.value v) w)
    (h : wpAnyH P md ops Q S fuel (listed.setIfInBounds i true) (a.put oi.dst v) w) : wpAnyH P md ops Q S (fuel + 1) listed a w :=
  wpAnyH_take (at_list hi) hs hf hr hQ (.inl ⟨hw, hy⟩) hS h

/-- An operation whose guard says no. -/
theorem tk_no (i : Nat) {oi : Oper} {fuel : Nat} {listed : Array Bool} {a : Act} {w : World} (hi : ops.toList[i]? = some oi)
    (hs : Region.noSelect ops = true) (hf : Region.free md ops listed i = true) (hr : (Region.ready md ops listed).contains i = true)
    (hQ : ∀ c a w, Q (.panic c) (a.put oi.dst undef) w → Q (.panic c) a w) (hw : Region.wanted oi (yielded ops a.tmps) = false) (hS : S w)
    (h : wpAnyH P md ops Q S fuel (listed.setIfInBounds i true) (a.put oi.dst undef) w) : wpAnyH P md ops Q S (fuel + 1) listed a w :=
  wpAnyH_take (at_list hi) hs hf hr hQ (.inr ⟨hw, rfl⟩) hS h

/-- The one operation that may come up: what follows stands behind KW. -/
theorem tk_call (i : Nat) {o : Oper} {fuel : Nat} {listed : Array Bool} {a : Act} {w : World} (ho : ops.toList[i]? = some o) (hr : Region.ready md ops listed = [i])
    (hw : Region.wanted o (yielded ops a.tmps) = true)
    (h : ∀ K' : Act → World → Prop, Shut (∀ a w, S w → (S w → wpAnyH P md ops Q S fuel (listed.setIfInBounds i true) a w) → K' a w) → Oper.wp P o a w K' Q) :
    wpAnyH P md ops Q S (fuel + 1) listed a w :=
  wpAnyH_ready hr (by simp) (AllReadyH.cons (at_list ho) (fun K' hK => by rw [if_pos hw]; exact h K' hK) AllReadyH.nil)

/-- Two operations that may come up. -/
theorem tk_two (i j : Nat) {o1 o2 : Oper} {fuel : Nat} {listed : Array Bool} {a : Act} {w : World} (ho1 : ops.toList[i]? = some o1) (ho2 : ops.toList[j]? = some o2) (hr : Region.ready md ops listed = [i, j])
    (hw1 : Region.wanted o1 (yielded ops a.tmps) = true) (hw2 : Region.wanted o2 (yielded ops a.tmps) = true)
    (h1 : ∀ K' : Act → World → Prop, Shut (∀ a w, S w → (S w → wpAnyH P md ops Q S fuel (listed.setIfInBounds i true) a w) → K' a w) → Oper.wp P o1 a w K' Q)
    (h2 : ∀ K' : Act → World → Prop, Shut (∀ a w, S w → (S w → wpAnyH P md ops Q S fuel (listed.setIfInBounds j true) a w) → K' a w) → Oper.wp P o2 a w K' Q) :
    wpAnyH P md ops Q S (fuel + 1) listed a w :=
  wpAnyH_ready hr (by simp) (AllReadyH.cons (at_list ho1) (fun K' hK => by rw [if_pos hw1]; exact h1 K' hK) (AllReadyH.cons (at_list ho2) (fun K' hK => by rw [if_pos hw2]; exact h2 K' hK) AllReadyH.nil))
end
end Go.Proofs.Ythmjbfocpdiikaa
/-
  order.taken's next.
-/
namespace Go.Proofs.Ythmjbfocpdiikaa
open Go.RowKit
set_option linter.unusedVariables false
set_option linter.unusedSimpArgs false
attribute [local go_sem] drewN_alloc drewN_setCell

def nextI (f : Int) (l : List PO.Mem) (done : List Nat) : Int := match PO.next f l done with | some i => (i : Int) | none => -1
def NextRel (w : World) (l : List PO.Mem) (f : Int) (done : List Nat) (n : Nat) (i : Value) (wr : World) : Prop :=
  ∃ k : Nat, k ≤ n ∧ i = .int .i64 k ∧ (∀ j, j < k → j ∈ done ∨ f < PO.need (l.getD j PO.m0)) ∧ Below w.heap.size w wr
/-- The array of bools in block d tells who is done. -/
def DoneAt (w : World) (d n : Nat) (done : List Nat) : Prop := ∀ j, j < n → w.cell? ⟨d, j, none⟩ = some (.bool (decide (j ∈ done)))

set_option maxRecDepth 100000 in
set_option maxHeartbeats 8000000 in
theorem taken_next {A : Option Addr} {n : Nat} {l : List PO.Mem} (c lb db fb d : Nat) (f : Int) (done : List Nat) {w : World} (h : MemAt w A n l)
    (cl : w.cell? ⟨lb, 0, none⟩ = some (.slice A n c)) (cd : w.cell? ⟨db, 0, none⟩ = some (.slice (some ⟨d, 0, none⟩) n n)) (cf : w.cell? ⟨fb, 0, none⟩ = some (.int .i64 f)) (hd : DoneAt w d n done) :
    Calls Try.prog 95 #[.pointer (some ⟨lb, 0, none⟩), .pointer (some ⟨db, 0, none⟩), .pointer (some ⟨fb, 0, none⟩)] w fun e w' => e = .returned (.int .i64 (nextI f l done)) ∧ Below w.heap.size w w' := by
  obtain ⟨R, hR⟩ : ∃ R, nextI f l done = R := ⟨_, rfl⟩
  rw [hR]
  have HR := Lib.hid hR
  have HX := Lib.hid h.1
  have HN := h.2.1
  have HB := Lib.hid (fun k (hk : k < n) => h.bd hk)
  have HC := Lib.hid h.2.2.2
  have HD := Lib.hid hd
  have sl := World.block_lt_of_cell? _ _ cl
  have sd := World.block_lt_of_cell? _ _ cd
  have sf := World.block_lt_of_cell? _ _ cf
  dsimp only at sl sd sf
  have CD := Lib.hid cd
  have CF := Lib.hid cf
  clear hR h hd cd cf
  go_enter Try.func95, Try.ntmps95
  go_wp2_with fail
  go_loopw [8] (fun i wr => NextRel w l f done n i wr) (fun i _ => n - (intOf i).toNat)
  case atStart => exact ⟨0, Nat.zero_le _, rfl, fun j hj => absurd hj (by omega), Below.refl _ _⟩
  case round =>
    obtain ⟨k, hk, rfl, hnot, hbel⟩ := hrel
    have HNOT := Lib.hid hnot
    clear hnot
    have j1 : (0 : Int) ≤ (k : Int) := by omega
    by_cases hlt : (k : Int) < n
    · obtain ⟨b, off, rfl, hb, hcs⟩ := HC.out (by omega)
      obtain ⟨x0, x1, x2, x3⟩ := (hcs k (by omega)).keep hbel hb
      have bd := HB.out k (by omega)
      have hkl : k < l.length := by rw [HX.out]; omega
      obtain ⟨m, hm⟩ : ∃ m, l.getD k PO.m0 = m := ⟨_, rfl⟩
      rw [hm] at x0 x1 x2 x3 bd
      have HM := Lib.hid hm
      have KN := fun W => account_Need m.2.1 m.2.2.1 m.2.2.2 W bd.2.1 bd.2.2.1 bd.2.2.2
      have dk := HD.out k (by omega)
      have sdd := World.block_lt_of_cell? _ _ dk
      dsimp only at sdd
      clear hm hcs bd
      by_cases hin : k ∈ done
      · have HE : Hid (∀ j, j < k + 1 → j ∈ done ∨ f < PO.need (l.getD j PO.m0)) := Lib.hid (fun j hj => by
          rcases Nat.lt_or_ge j k with h1 | h1
          · exact HNOT.out j h1
          · obtain rfl : j = k := by omega
            exact .inl hin)
        rw [decide_eq_true hin] at dk
        clear hin
        go_wp2_with fail
        have hbV : Below wr.heap.size wr (wr.alloc (.cells #[.int .i64 m.1, .int .i64 m.2.1, .int .i64 m.2.2.1, .int .i64 m.2.2.2] 34)) := bel_alloc (Below.refl _ _) _
        obtain ⟨V, hV⟩ : ∃ V, (wr.alloc (.cells #[.int .i64 m.1, .int .i64 m.2.1, .int .i64 m.2.2.1, .int .i64 m.2.2.2] 34)) = V := ⟨_, rfl⟩
        have hS : Hid (∀ W : World, Below V.heap.size V W → (fun W : World => W.cell? ⟨db, 0, none⟩ = some (.slice (some ⟨d, 0, none⟩) n n) ∧ W.cell? ⟨d, k, none⟩ = some (.bool true) ∧ W.cell? ⟨fb, 0, none⟩ = some (.int .i64 f) ∧ W.cell? ⟨wr.heap.size, 1, none⟩ = some (.int .i64 m.2.1) ∧ W.cell? ⟨wr.heap.size, 2, none⟩ = some (.int .i64 m.2.2.1) ∧ W.cell? ⟨wr.heap.size, 3, none⟩ = some (.int .i64 m.2.2.2)) W) := Lib.hid (fun W hW => by
          have q : wr.heap.size < V.heap.size := by rw [← hV]; simp
          have hs := hbel.size
          have hbw := bel_trans hbel (hV ▸ hbV)
          refine ⟨(hW.cell (show db < V.heap.size by omega)).trans ((hbw.cell sd).trans CD.out), (hW.cell (show d < V.heap.size by omega)).trans ((hbw.cell sdd).trans dk), (hW.cell (show fb < V.heap.size by omega)).trans ((hbw.cell sf).trans CF.out), ?_, ?_, ?_⟩
          all_goals (refine (hW.cell (show wr.heap.size < V.heap.size by omega)).trans ?_; rw [← hV]; simp [go_sem]))
        rw [hV] at hbV ⊢
        refine wp_region_held_drew (S := (fun W : World => W.cell? ⟨db, 0, none⟩ = some (.slice (some ⟨d, 0, none⟩) n n) ∧ W.cell? ⟨d, k, none⟩ = some (.bool true) ∧ W.cell? ⟨fb, 0, none⟩ = some (.int .i64 f) ∧ W.cell? ⟨wr.heap.size, 1, none⟩ = some (.int .i64 m.2.1) ∧ W.cell? ⟨wr.heap.size, 2, none⟩ = some (.int .i64 m.2.2.1) ∧ W.cell? ⟨wr.heap.size, 3, none⟩ = some (.int .i64 m.2.2.2))) (by kernel_rfl) ?_ (fun hHeld => ?_)
        focus ((try dsimp only); exact hS.out _ (by repeat (first | exact Below.refl _ _ | assumption | refine bel_drew ?_ | refine bel_alloc ?_ _ | refine bel_trans ?_ (by assumption))))
        refine tk_yes 0 (v := ?_) rfl (by kernel_rfl) (by kernel_rfl) (by kernel_rfl) (fun _ _ _ h => h) (by kernel_rfl) (by assumption) ?_ ?_; rotate_left; (focus (intro w hSw; (try dsimp only at hSw); go_simp; (first | done | (with_reducible rfl)))); (try simp only [Act.put, List.setIfInBounds_toArray, List.set_cons_zero, List.set_cons_succ])
        refine tk_yes 1 (v := ?_) rfl (by kernel_rfl) (by kernel_rfl) (by kernel_rfl) (fun _ _ _ h => h) (by kernel_rfl) (by assumption) ?_ ?_; rotate_left; (focus (intro w hSw; (try dsimp only at hSw); go_simp; (first | done | (with_reducible rfl)))); (try simp only [Act.put, List.setIfInBounds_toArray, List.set_cons_zero, List.set_cons_succ])
        refine tk_yes 2 (v := ?_) rfl (by kernel_rfl) (by kernel_rfl) (by kernel_rfl) (fun _ _ _ h => h) (by kernel_rfl) (by assumption) ?_ ?_; rotate_left; (focus (intro w hSw; (try dsimp only at hSw); go_simp; (first | done | (with_reducible rfl)))); (try simp only [Act.put, List.setIfInBounds_toArray, List.set_cons_zero, List.set_cons_succ])
        refine tk_yes 3 (v := ?_) rfl (by kernel_rfl) (by kernel_rfl) (by kernel_rfl) (fun _ _ _ h => h) (by kernel_rfl) (by assumption) ?_ ?_; rotate_left; (focus (intro w hSw; (try dsimp only at hSw); go_simp; (first | done | (with_reducible rfl)))); (try simp only [Act.put, List.setIfInBounds_toArray, List.set_cons_zero, List.set_cons_succ])
        refine tk_yes 4 (v := ?_) rfl (by kernel_rfl) (by kernel_rfl) (by kernel_rfl) (fun _ _ _ h => h) (by kernel_rfl) (by assumption) ?_ ?_; rotate_left; (focus (intro w hSw; (try dsimp only at hSw); go_simp; (first | done | (with_reducible rfl)))); (try simp only [Act.put, List.setIfInBounds_toArray, List.set_cons_zero, List.set_cons_succ])
        refine tk_yes 5 (v := ?_) rfl (by kernel_rfl) (by kernel_rfl) (by kernel_rfl) (fun _ _ _ h => h) (by kernel_rfl) (by assumption) ?_ ?_; rotate_left; (focus (intro w hSw; (try dsimp only at hSw); go_simp; (first | done | (with_reducible rfl)))); (try simp only [Act.put, List.setIfInBounds_toArray, List.set_cons_zero, List.set_cons_succ])
        refine tk_no 6 rfl (by kernel_rfl) (by kernel_rfl) (by kernel_rfl) (fun _ _ _ h => h) (by kernel_rfl) (by assumption) ?_; (try simp only [Act.put, List.setIfInBounds_toArray, List.set_cons_zero, List.set_cons_succ])
        refine tk_no 7 rfl (by kernel_rfl) (by kernel_rfl) (by kernel_rfl) (fun _ _ _ h => h) (by kernel_rfl) (by assumption) ?_; (try simp only [Act.put, List.setIfInBounds_toArray, List.set_cons_zero, List.set_cons_succ])
        refine tk_no 9 rfl (by kernel_rfl) (by kernel_rfl) (by kernel_rfl) (fun _ _ _ h => h) (by kernel_rfl) (by assumption) ?_; (try simp only [Act.put, List.setIfInBounds_toArray, List.set_cons_zero, List.set_cons_succ])
        refine tk_no 8 rfl (by kernel_rfl) (by kernel_rfl) (by kernel_rfl) (fun _ _ _ h => h) (by kernel_rfl) (by assumption) ?_; (try simp only [Act.put, List.setIfInBounds_toArray, List.set_cons_zero, List.set_cons_succ])
        refine tk_no 10 rfl (by kernel_rfl) (by kernel_rfl) (by kernel_rfl) (fun _ _ _ h => h) (by kernel_rfl) (by assumption) ?_; (try simp only [Act.put, List.setIfInBounds_toArray, List.set_cons_zero, List.set_cons_succ])
        refine tk_yes 11 (v := ?_) rfl (by kernel_rfl) (by kernel_rfl) (by kernel_rfl) (fun _ _ _ h => h) (by kernel_rfl) (by assumption) ?_ ?_; rotate_left; (focus (intro w hSw; (try dsimp only at hSw); go_simp; (first | done | (with_reducible rfl)))); (try simp only [Act.put, List.setIfInBounds_toArray, List.set_cons_zero, List.set_cons_succ])
        refine wpAnyH_done (by kernel_rfl) ?_ _
        go_wp2_with fail
        go_roundw
        case rel => exact ⟨k + 1, by omega, by go_num, HE.out, (by repeat (first | exact Below.refl _ _ | assumption | refine bel_drew ?_ | refine bel_drewN ?_ _ | refine bel_alloc ?_ _ | refine bel_set ?_ (by first | (dsimp only; omega) | (simp; done) | (simp; omega)) _ | refine bel_trans ?_ (by assumption)))⟩
        case measure => simp [intOf]; omega
      · rw [decide_eq_false hin] at dk
        by_cases hne : PO.need m ≤ f
        · have HE : Hid ((k : Int) = R) := Lib.hid (by
            rw [← HR.out]
            unfold nextI
            rw [PO.next_some.2 ⟨hkl, hin, by rw [HM.out]; exact hne, HNOT.out⟩])
          have hne' : PA.need m.2.1 m.2.2.1 m.2.2.2 ≤ f := hne
          generalize PA.need m.2.1 m.2.2.1 m.2.2.2 = nd at *
          have g1 : decide (nd ≤ f) = true := decide_eq_true hne'
          replace KN := Lib.hid KN
          clear hin hne hne' hkl
          go_wp2_with fail
          have hbV : Below wr.heap.size wr (wr.alloc (.cells #[.int .i64 m.1, .int .i64 m.2.1, .int .i64 m.2.2.1, .int .i64 m.2.2.2] 34)) := bel_alloc (Below.refl _ _) _
          obtain ⟨V, hV⟩ : ∃ V, (wr.alloc (.cells #[.int .i64 m.1, .int .i64 m.2.1, .int .i64 m.2.2.1, .int .i64 m.2.2.2] 34)) = V := ⟨_, rfl⟩
          have hS : Hid (∀ W : World, Below V.heap.size V W → (fun W : World => W.cell? ⟨db, 0, none⟩ = some (.slice (some ⟨d, 0, none⟩) n n) ∧ W.cell? ⟨d, k, none⟩ = some (.bool false) ∧ W.cell? ⟨fb, 0, none⟩ = some (.int .i64 f) ∧ W.cell? ⟨wr.heap.size, 1, none⟩ = some (.int .i64 m.2.1) ∧ W.cell? ⟨wr.heap.size, 2, none⟩ = some (.int .i64 m.2.2.1) ∧ W.cell? ⟨wr.heap.size, 3, none⟩ = some (.int .i64 m.2.2.2)) W) := Lib.hid (fun W hW => by
            have q : wr.heap.size < V.heap.size := by rw [← hV]; simp
            have hs := hbel.size
            have hbw := bel_trans hbel (hV ▸ hbV)
            refine ⟨(hW.cell (show db < V.heap.size by omega)).trans ((hbw.cell sd).trans CD.out), (hW.cell (show d < V.heap.size by omega)).trans ((hbw.cell sdd).trans dk), (hW.cell (show fb < V.heap.size by omega)).trans ((hbw.cell sf).trans CF.out), ?_, ?_, ?_⟩
            all_goals (refine (hW.cell (show wr.heap.size < V.heap.size by omega)).trans ?_; rw [← hV]; simp [go_sem]))
          rw [hV] at hbV ⊢
          refine wp_region_held_drew (S := (fun W : World => W.cell? ⟨db, 0, none⟩ = some (.slice (some ⟨d, 0, none⟩) n n) ∧ W.cell? ⟨d, k, none⟩ = some (.bool false) ∧ W.cell? ⟨fb, 0, none⟩ = some (.int .i64 f) ∧ W.cell? ⟨wr.heap.size, 1, none⟩ = some (.int .i64 m.2.1) ∧ W.cell? ⟨wr.heap.size, 2, none⟩ = some (.int .i64 m.2.2.1) ∧ W.cell? ⟨wr.heap.size, 3, none⟩ = some (.int .i64 m.2.2.2))) (by kernel_rfl) ?_ (fun hHeld => ?_)
          focus ((try dsimp only); exact hS.out _ (by repeat (first | exact Below.refl _ _ | assumption | refine bel_drew ?_ | refine bel_alloc ?_ _ | refine bel_trans ?_ (by assumption))))
          refine tk_yes 0 (v := ?_) rfl (by kernel_rfl) (by kernel_rfl) (by kernel_rfl) (fun _ _ _ h => h) (by kernel_rfl) (by assumption) ?_ ?_; rotate_left; (focus (intro w hSw; (try dsimp only at hSw); go_simp; (first | done | (with_reducible rfl)))); (try simp only [Act.put, List.setIfInBounds_toArray, List.set_cons_zero, List.set_cons_succ])
          refine tk_yes 1 (v := ?_) rfl (by kernel_rfl) (by kernel_rfl) (by kernel_rfl) (fun _ _ _ h => h) (by kernel_rfl) (by assumption) ?_ ?_; rotate_left; (focus (intro w hSw; (try dsimp only at hSw); go_simp; (first | done | (with_reducible rfl)))); (try simp only [Act.put, List.setIfInBounds_toArray, List.set_cons_zero, List.set_cons_succ])
          refine tk_yes 2 (v := ?_) rfl (by kernel_rfl) (by kernel_rfl) (by kernel_rfl) (fun _ _ _ h => h) (by kernel_rfl) (by assumption) ?_ ?_; rotate_left; (focus (intro w hSw; (try dsimp only at hSw); go_simp; (first | done | (with_reducible rfl)))); (try simp only [Act.put, List.setIfInBounds_toArray, List.set_cons_zero, List.set_cons_succ])
          refine tk_yes 3 (v := ?_) rfl (by kernel_rfl) (by kernel_rfl) (by kernel_rfl) (fun _ _ _ h => h) (by kernel_rfl) (by assumption) ?_ ?_; rotate_left; (focus (intro w hSw; (try dsimp only at hSw); go_simp; (first | done | (with_reducible rfl)))); (try simp only [Act.put, List.setIfInBounds_toArray, List.set_cons_zero, List.set_cons_succ])
          refine tk_yes 4 (v := ?_) rfl (by kernel_rfl) (by kernel_rfl) (by kernel_rfl) (fun _ _ _ h => h) (by kernel_rfl) (by assumption) ?_ ?_; rotate_left; (focus (intro w hSw; (try dsimp only at hSw); go_simp; (first | done | (with_reducible rfl)))); (try simp only [Act.put, List.setIfInBounds_toArray, List.set_cons_zero, List.set_cons_succ])
          refine tk_yes 5 (v := ?_) rfl (by kernel_rfl) (by kernel_rfl) (by kernel_rfl) (fun _ _ _ h => h) (by kernel_rfl) (by assumption) ?_ ?_; rotate_left; (focus (intro w hSw; (try dsimp only at hSw); go_simp; (first | done | (with_reducible rfl)))); (try simp only [Act.put, List.setIfInBounds_toArray, List.set_cons_zero, List.set_cons_succ])
          refine tk_yes 6 (v := ?_) rfl (by kernel_rfl) (by kernel_rfl) (by kernel_rfl) (fun _ _ _ h => h) (by kernel_rfl) (by assumption) ?_ ?_; rotate_left; (focus (intro w hSw; (try dsimp only at hSw); go_simp; (first | done | (with_reducible rfl)))); (try simp only [Act.put, List.setIfInBounds_toArray, List.set_cons_zero, List.set_cons_succ])
          refine tk_yes 7 (v := ?_) rfl (by kernel_rfl) (by kernel_rfl) (by kernel_rfl) (fun _ _ _ h => h) (by kernel_rfl) (by assumption) ?_ ?_; rotate_left; (focus (intro w hSw; (try dsimp only at hSw); go_simp; (first | done | (with_reducible rfl)))); (try simp only [Act.put, List.setIfInBounds_toArray, List.set_cons_zero, List.set_cons_succ])
          refine tk_yes 9 (v := ?_) rfl (by kernel_rfl) (by kernel_rfl) (by kernel_rfl) (fun _ _ _ h => h) (by kernel_rfl) (by assumption) ?_ ?_; rotate_left; (focus (intro w hSw; (try dsimp only at hSw); go_simp; (first | done | (with_reducible rfl)))); (try simp only [Act.put, List.setIfInBounds_toArray, List.set_cons_zero, List.set_cons_succ])
          refine tk_call 8 rfl (by kernel_rfl) (by kernel_rfl) (fun KW hKW => ?_); go_simp; go_at_call 72; refine (KN.out _).mono ?_; rintro e w4 ⟨rfl, h4⟩; have b4 := bel_trans (bel_drew hbV) h4; have c4 := bel_trans (bel_drew (Below.refl V.heap.size V)) h4; refine hKW.out _ _ ?_ (fun hHeld => ?_); (focus ((try dsimp only); exact hS.out _ (by repeat (first | exact Below.refl _ _ | assumption | refine bel_drew ?_ | refine bel_alloc ?_ _ | refine bel_trans ?_ (by assumption))))); clear hKW KW; (try simp only [Act.put, List.setIfInBounds_toArray, List.set_cons_zero, List.set_cons_succ])
          refine tk_yes 10 (v := ?_) rfl (by kernel_rfl) (by kernel_rfl) (by kernel_rfl) (fun _ _ _ h => h) (by kernel_rfl) (by assumption) ?_ ?_; rotate_left; (focus (intro w hSw; (try dsimp only at hSw); go_simp; (first | done | (with_reducible rfl)))); (try simp only [Act.put, List.setIfInBounds_toArray, List.set_cons_zero, List.set_cons_succ])
          refine tk_yes 11 (v := ?_) rfl (by kernel_rfl) (by kernel_rfl) (by kernel_rfl) (fun _ _ _ h => h) (by kernel_rfl) (by assumption) ?_ ?_; rotate_left; (focus (intro w hSw; (try dsimp only at hSw); go_simp; (first | done | (with_reducible rfl)))); (try simp only [Act.put, List.setIfInBounds_toArray, List.set_cons_zero, List.set_cons_succ])
          refine wpAnyH_done (by kernel_rfl) ?_ _
          go_wp2_with fail
          go_ret
          exact ⟨ret_int HE.out, (by repeat (first | exact Below.refl _ _ | assumption | refine bel_drew ?_ | refine bel_drewN ?_ _ | refine bel_alloc ?_ _ | refine bel_set ?_ (by first | (dsimp only; omega) | (simp; done) | (simp; omega)) _ | refine bel_trans ?_ (by assumption)))⟩
        · have HE : Hid (∀ j, j < k + 1 → j ∈ done ∨ f < PO.need (l.getD j PO.m0)) := Lib.hid (fun j hj => by
            rcases Nat.lt_or_ge j k with h1 | h1
            · exact HNOT.out j h1
            · obtain rfl : j = k := by omega
              exact .inr (by rw [HM.out]; omega))
          have hne' : ¬ PA.need m.2.1 m.2.2.1 m.2.2.2 ≤ f := hne
          generalize PA.need m.2.1 m.2.2.1 m.2.2.2 = nd at *
          have g1 : decide (nd ≤ f) = false := decide_eq_false hne'
          replace KN := Lib.hid KN
          clear hin hne hne' hkl
          go_wp2_with fail
          have hbV : Below wr.heap.size wr (wr.alloc (.cells #[.int .i64 m.1, .int .i64 m.2.1, .int .i64 m.2.2.1, .int .i64 m.2.2.2] 34)) := bel_alloc (Below.refl _ _) _
          obtain ⟨V, hV⟩ : ∃ V, (wr.alloc (.cells #[.int .i64 m.1, .int .i64 m.2.1, .int .i64 m.2.2.1, .int .i64 m.2.2.2] 34)) = V := ⟨_, rfl⟩
          have hS : Hid (∀ W : World, Below V.heap.size V W → (fun W : World => W.cell? ⟨db, 0, none⟩ = some (.slice (some ⟨d, 0, none⟩) n n) ∧ W.cell? ⟨d, k, none⟩ = some (.bool false) ∧ W.cell? ⟨fb, 0, none⟩ = some (.int .i64 f) ∧ W.cell? ⟨wr.heap.size, 1, none⟩ = some (.int .i64 m.2.1) ∧ W.cell? ⟨wr.heap.size, 2, none⟩ = some (.int .i64 m.2.2.1) ∧ W.cell? ⟨wr.heap.size, 3, none⟩ = some (.int .i64 m.2.2.2)) W) := Lib.hid (fun W hW => by
            have q : wr.heap.size < V.heap.size := by rw [← hV]; simp
            have hs := hbel.size
            have hbw := bel_trans hbel (hV ▸ hbV)
            refine ⟨(hW.cell (show db < V.heap.size by omega)).trans ((hbw.cell sd).trans CD.out), (hW.cell (show d < V.heap.size by omega)).trans ((hbw.cell sdd).trans dk), (hW.cell (show fb < V.heap.size by omega)).trans ((hbw.cell sf).trans CF.out), ?_, ?_, ?_⟩
            all_goals (refine (hW.cell (show wr.heap.size < V.heap.size by omega)).trans ?_; rw [← hV]; simp [go_sem]))
          rw [hV] at hbV ⊢
          refine wp_region_held_drew (S := (fun W : World => W.cell? ⟨db, 0, none⟩ = some (.slice (some ⟨d, 0, none⟩) n n) ∧ W.cell? ⟨d, k, none⟩ = some (.bool false) ∧ W.cell? ⟨fb, 0, none⟩ = some (.int .i64 f) ∧ W.cell? ⟨wr.heap.size, 1, none⟩ = some (.int .i64 m.2.1) ∧ W.cell? ⟨wr.heap.size, 2, none⟩ = some (.int .i64 m.2.2.1) ∧ W.cell? ⟨wr.heap.size, 3, none⟩ = some (.int .i64 m.2.2.2))) (by kernel_rfl) ?_ (fun hHeld => ?_)
          focus ((try dsimp only); exact hS.out _ (by repeat (first | exact Below.refl _ _ | assumption | refine bel_drew ?_ | refine bel_alloc ?_ _ | refine bel_trans ?_ (by assumption))))
          refine tk_yes 0 (v := ?_) rfl (by kernel_rfl) (by kernel_rfl) (by kernel_rfl) (fun _ _ _ h => h) (by kernel_rfl) (by assumption) ?_ ?_; rotate_left; (focus (intro w hSw; (try dsimp only at hSw); go_simp; (first | done | (with_reducible rfl)))); (try simp only [Act.put, List.setIfInBounds_toArray, List.set_cons_zero, List.set_cons_succ])
          refine tk_yes 1 (v := ?_) rfl (by kernel_rfl) (by kernel_rfl) (by kernel_rfl) (fun _ _ _ h => h) (by kernel_rfl) (by assumption) ?_ ?_; rotate_left; (focus (intro w hSw; (try dsimp only at hSw); go_simp; (first | done | (with_reducible rfl)))); (try simp only [Act.put, List.setIfInBounds_toArray, List.set_cons_zero, List.set_cons_succ])
          refine tk_yes 2 (v := ?_) rfl (by kernel_rfl) (by kernel_rfl) (by kernel_rfl) (fun _ _ _ h => h) (by kernel_rfl) (by assumption) ?_ ?_; rotate_left; (focus (intro w hSw; (try dsimp only at hSw); go_simp; (first | done | (with_reducible rfl)))); (try simp only [Act.put, List.setIfInBounds_toArray, List.set_cons_zero, List.set_cons_succ])
          refine tk_yes 3 (v := ?_) rfl (by kernel_rfl) (by kernel_rfl) (by kernel_rfl) (fun _ _ _ h => h) (by kernel_rfl) (by assumption) ?_ ?_; rotate_left; (focus (intro w hSw; (try dsimp only at hSw); go_simp; (first | done | (with_reducible rfl)))); (try simp only [Act.put, List.setIfInBounds_toArray, List.set_cons_zero, List.set_cons_succ])
          refine tk_yes 4 (v := ?_) rfl (by kernel_rfl) (by kernel_rfl) (by kernel_rfl) (fun _ _ _ h => h) (by kernel_rfl) (by assumption) ?_ ?_; rotate_left; (focus (intro w hSw; (try dsimp only at hSw); go_simp; (first | done | (with_reducible rfl)))); (try simp only [Act.put, List.setIfInBounds_toArray, List.set_cons_zero, List.set_cons_succ])
          refine tk_yes 5 (v := ?_) rfl (by kernel_rfl) (by kernel_rfl) (by kernel_rfl) (fun _ _ _ h => h) (by kernel_rfl) (by assumption) ?_ ?_; rotate_left; (focus (intro w hSw; (try dsimp only at hSw); go_simp; (first | done | (with_reducible rfl)))); (try simp only [Act.put, List.setIfInBounds_toArray, List.set_cons_zero, List.set_cons_succ])
          refine tk_yes 6 (v := ?_) rfl (by kernel_rfl) (by kernel_rfl) (by kernel_rfl) (fun _ _ _ h => h) (by kernel_rfl) (by assumption) ?_ ?_; rotate_left; (focus (intro w hSw; (try dsimp only at hSw); go_simp; (first | done | (with_reducible rfl)))); (try simp only [Act.put, List.setIfInBounds_toArray, List.set_cons_zero, List.set_cons_succ])
          refine tk_yes 7 (v := ?_) rfl (by kernel_rfl) (by kernel_rfl) (by kernel_rfl) (fun _ _ _ h => h) (by kernel_rfl) (by assumption) ?_ ?_; rotate_left; (focus (intro w hSw; (try dsimp only at hSw); go_simp; (first | done | (with_reducible rfl)))); (try simp only [Act.put, List.setIfInBounds_toArray, List.set_cons_zero, List.set_cons_succ])
          refine tk_yes 9 (v := ?_) rfl (by kernel_rfl) (by kernel_rfl) (by kernel_rfl) (fun _ _ _ h => h) (by kernel_rfl) (by assumption) ?_ ?_; rotate_left; (focus (intro w hSw; (try dsimp only at hSw); go_simp; (first | done | (with_reducible rfl)))); (try simp only [Act.put, List.setIfInBounds_toArray, List.set_cons_zero, List.set_cons_succ])
          refine tk_call 8 rfl (by kernel_rfl) (by kernel_rfl) (fun KW hKW => ?_); go_simp; go_at_call 72; refine (KN.out _).mono ?_; rintro e w4 ⟨rfl, h4⟩; have b4 := bel_trans (bel_drew hbV) h4; have c4 := bel_trans (bel_drew (Below.refl V.heap.size V)) h4; refine hKW.out _ _ ?_ (fun hHeld => ?_); (focus ((try dsimp only); exact hS.out _ (by repeat (first | exact Below.refl _ _ | assumption | refine bel_drew ?_ | refine bel_alloc ?_ _ | refine bel_trans ?_ (by assumption))))); clear hKW KW; (try simp only [Act.put, List.setIfInBounds_toArray, List.set_cons_zero, List.set_cons_succ])
          refine tk_yes 10 (v := ?_) rfl (by kernel_rfl) (by kernel_rfl) (by kernel_rfl) (fun _ _ _ h => h) (by kernel_rfl) (by assumption) ?_ ?_; rotate_left; (focus (intro w hSw; (try dsimp only at hSw); go_simp; (first | done | (with_reducible rfl)))); (try simp only [Act.put, List.setIfInBounds_toArray, List.set_cons_zero, List.set_cons_succ])
          refine tk_yes 11 (v := ?_) rfl (by kernel_rfl) (by kernel_rfl) (by kernel_rfl) (fun _ _ _ h => h) (by kernel_rfl) (by assumption) ?_ ?_; rotate_left; (focus (intro w hSw; (try dsimp only at hSw); go_simp; (first | done | (with_reducible rfl)))); (try simp only [Act.put, List.setIfInBounds_toArray, List.set_cons_zero, List.set_cons_succ])
          refine wpAnyH_done (by kernel_rfl) ?_ _
          go_wp2_with fail
          go_roundw
          case rel => exact ⟨k + 1, by omega, by go_num, HE.out, (by repeat (first | exact Below.refl _ _ | assumption | refine bel_drew ?_ | refine bel_drewN ?_ _ | refine bel_alloc ?_ _ | refine bel_set ?_ (by first | (dsimp only; omega) | (simp; done) | (simp; omega)) _ | refine bel_trans ?_ (by assumption)))⟩
          case measure => simp [intOf]; omega
    · have HE : Hid ((-1 : Int) = R) := Lib.hid (by
        rw [← HR.out]
        unfold nextI
        rw [PO.next_none (fun j hj => HNOT.out j (by rw [HX.out] at hj; omega))])
      go_wp2_with fail
      go_ret
      exact ⟨ret_int HE.out, (by repeat (first | exact Below.refl _ _ | assumption | refine bel_drew ?_ | refine bel_drewN ?_ _ | refine bel_alloc ?_ _ | refine bel_set ?_ (by first | (dsimp only; omega) | (simp; done) | (simp; omega)) _ | refine bel_trans ?_ (by assumption)))⟩
end Go.Proofs.Ythmjbfocpdiikaa
/-
  A range over a function whose body always goes on, where the iterator writes cells of its own between the rounds.
-/
namespace Go.Proofs.Ythmjbfocpdiikaa
open Go.RowKit
set_option linter.unusedVariables false

/-- How a round's body is left. -/
def goesOn {α : Type} (L : Nat) (Kp : World → World → Prop) (I : List α → World → Prop) (xs : List α) (W : World) : Exit → Act → World → Prop
  | .normal, _, W' => W'.heap[L]? = W.heap[L]? ∧ W'.heap[L + 1]? = W.heap[L + 1]? ∧ Kp W W' ∧ I xs W'
  | _, _, _ => False

/-- What an iterator gives: for every J that its own steps leave, and that each round leads on. -/
def IterGives {α : Type} (P : Program) (gf : Nat) (lb : Array Value) (encs : α → Array Value) (Own : Nat → Prop) (Kp : World → World → Prop) (S : List α → Prop) (l sz N : Nat) (W : World) : Prop :=
  ∀ J : List α → World → Prop, (∀ s A B row, J s A → A.grownBy B row → (∀ r, row = some r → Own r) → J s B) →
    (∀ pre x W1, J pre W1 → sz ≤ W1.heap.size → pre.length < N → ∀ m, YieldAt Fence.wide m P l (encs x) W1 fun e W' => e = .returned (.bool true) ∧ J (pre ++ [x]) W' ∧ Kp W1 W') → J [] W →
    Calls P gf (#[.func (.yield l) #[] #[]] ++ lb) W fun e W' => (∃ v, e = .returned v) ∧ ∃ xs, S xs ∧ J xs W'

theorem range_plain {P : Program} {α : Type} {g : Operand} {ps : Array Tmp} {assign body : Code} {Q : Exit → Act → World → Prop} {a : Act} {w : World} {n : Nat} {gf : Nat} {lb : Array Value}
    (hg : a.eval g = .func (.func gf) #[] lb) (eg : ∀ args w, (callFunc gf args).run P w = .ok (.enter gf args) w) {encs : α → Array Value} (hps : ∀ x, (encs x).size = ps.size)
    (I : List α → World → Prop) (Kp : World → World → Prop) (S : List α → Prop) (Own : Nat → Prop) (sz N : Nat)
    (hI : ∀ s A B row, I s A → A.grownBy B row → (∀ r, row = some r → Own r) → I s B) (hO : ¬ Own w.heap.size) (hO1 : ¬ Own (w.heap.size + 1))
    (hIput : ∀ s A o, I s A → w.heap.size + 1 < A.heap.size → I s (A.putObj (w.heap.size + 1) o)) (hKput : ∀ A o, w.heap.size + 1 < A.heap.size → Kp A (A.putObj (w.heap.size + 1) o)) (hKt : ∀ A B C, Kp A B → Kp B C → Kp A C)
    (h0 : ∀ o, I [] ((w.alloc (.deferred (some []))).alloc o))
    (hseq : ∀ o, IterGives P gf lb encs Own Kp S (w.heap.size + 1) sz N ((w.alloc (.deferred (some []))).alloc o)) (a₁ : α → Act)
    (hassign : ∀ (l m : Nat) (x : α) (W : World) (K : Act → World → Prop), K (a₁ x) W →
      assign.wpIn (Fence.wide.inRound l) m P (Exit.then K (fun _ _ _ => False)) { tmps := (ps.zip (encs x)).foldl (fun t (p, v) => t.setIfInBounds p v) a.tmps, defers := [] } W)
    (hbody : ∀ (l m : Nat) (pre : List α) (x : α) (W : World), I pre W → w.heap.size + 1 < W.heap.size → sz ≤ W.heap.size → pre.length < N → body.wpIn (Fence.wide.inRound l) m P (goesOn w.heap.size Kp I (pre ++ [x]) W) (a₁ x) W)
    (hdone : ∀ (xs : List α) (W : World), S xs → I xs W → W.heap[w.heap.size]? = some (.deferred (some [])) → Q .normal { a with defers := { target := .collected w.heap.size, args := #[] } :: a.defers } W) :
    (Code.rangeFunc g ps assign body).wpIn Fence.wide n P Q a w := by
  refine wpIn_rangeFunc ?_
  intro fn hfn
  have hro : Fence.wide.round = none := rfl
  rw [hro]
  obtain ⟨rec, hrec⟩ : ∃ rec : LoopState → Loop, rec = fun st => { state := st, pending := none, fn, tmps := a.tmps, params := ps, assign, body, defers := w.heap.size } := ⟨_, rfl⟩
  have hres : ∀ st, (rec st).state = st := fun st => by rw [hrec]
  obtain ⟨W1, hW1⟩ : ∃ W1, (w.alloc (.deferred (some []))).alloc (.loop (rec .ready)) = W1 := ⟨_, rfl⟩
  have hL1 : W1.heap[w.heap.size + 1]? = some (.loop (rec .ready)) := by
    rw [← hW1]; have := World.alloc_heap_new (w.alloc (.deferred (some []))) (.loop (rec .ready)); rwa [World.size_alloc] at this
  have hK1 : W1.heap[w.heap.size]? = some (.deferred (some [])) := by
    rw [← hW1]; exact (Below.heap_alloc _ _ _ (by simp)).trans (World.alloc_heap_new w _)
  have hI1 : I [] W1 := by rw [← hW1]; exact h0 _
  have hcall := hseq (.loop (rec .ready))
  rw [hW1] at hcall
  refine ⟨w.heap.size + 1, [{ target := .collected w.heap.size, args := #[] }], W1, { target := .fn (.func gf) lb, args := #[.func (.yield (w.heap.size + 1)) #[] #[]] }, W1, gf,
    #[.func (.yield (w.heap.size + 1)) #[] #[]] ++ lb, W1, ?_, ?_, ?_, ?_, fun h => by simp [Fence.wide] at h, callsIn_wide.2 ?_⟩
  · rw [← hW1, hrec]; exact run_enterLoop_outer _ _ _ _ _
  · simp only [resolve, hg]
    simp [go_sem]
  · intro f' hf'; trivial
  · simp [invoke, go_sem, eg]
  have keepL : ∀ {A B : World} {row : Option Nat} {k : Nat} {o : Obj}, A.grownBy B row → (∀ r, row = some r → Own r) → ¬ Own k → A.heap[k]? = some o → B.heap[k]? = some o := fun {A B row k o} hg hr hk ho =>
    (hg.block k (Array.getElem?_eq_some_iff.1 ho).1 (fun e => hk (hr k e.symm))).trans ho
  refine (hcall (fun pre W => I pre W ∧ W.heap[w.heap.size + 1]? = some (.loop (rec .ready)) ∧ W.heap[w.heap.size]? = some (.deferred (some [])))
    (fun s A B row hs hg' hr => ⟨hI s A B row hs.1 hg' hr, keepL hg' hr hO1 hs.2.1, keepL hg' hr hO hs.2.2⟩) ?_ ⟨hI1, hL1, hK1⟩).mono ?_
  · rintro pre x W ⟨hi, hl, hk⟩ hsz hN m
    have hlt : w.heap.size + 1 < W.heap.size := (Array.getElem?_eq_some_iff.1 hl).1
    have hy := run_yield (P := P) (args := encs x) hl (by rw [hrec]; exact hps x)
    rw [hrec] at hy
    refine ⟨fn, _, assign, body, hy, roundIn_of_wpIn trivial (hassign _ m x W _ ⟨_, run_beginRound hl (hres _), ?_⟩)⟩
    obtain ⟨W2, hW2⟩ : ∃ W2, W.putObj (w.heap.size + 1) (.loop { rec .ready with state := .busy }) = W2 := ⟨_, rfl⟩
    rw [hW2]
    have hl2 : W2.heap[w.heap.size + 1]? = some (.loop { rec .ready with state := .busy }) := by rw [← hW2]; exact World.putObj_heap_same hlt
    have hk2 : W2.heap[w.heap.size]? = some (.deferred (some [])) := by rw [← hW2]; exact (World.putObj_heap_other (by omega)).trans hk
    have hi2 : I pre W2 := by rw [← hW2]; exact hIput _ _ _ hi hlt
    have hw2 : Kp W W2 := by rw [← hW2]; exact hKput _ _ hlt
    refine wpIn_mono (hbody _ m pre x W2 hi2 (Array.getElem?_eq_some_iff.1 hl2).1 (by rw [← hW2]; simpa using hsz) hN) ?_
    rintro e a3 W3 hp
    cases e with
    | normal =>
      obtain ⟨d0, d1, hkp3, hi3⟩ := hp
      have hl3 := d1.trans hl2
      have hlt3 := (Array.getElem?_eq_some_iff.1 hl3).1
      have hr := run_endRound (P := P) none hl3
      refine ⟨_, _, hr, rfl, ⟨hIput _ _ _ hi3 hlt3, ?_, (World.putObj_heap_other (by omega)).trans (d0.trans hk2)⟩, hKt _ _ _ (hKt _ _ _ hw2 hkp3) (hKput _ _ hlt3)⟩
      rw [World.putObj_heap_same hlt3]
      simp [hrec]
    | ret => exact hp.elim
    | exit id => exact hp.elim
    | goto t => exact hp.elim
    | panic ch => exact hp.elim
    | outgrown => exact hp.elim
  · rintro e W2 ⟨⟨v, rfl⟩, xs, hS, hi, hl, hk⟩
    have hlt := (Array.getElem?_eq_some_iff.1 hl).1
    exact ⟨none, _, by have := run_endLoop (P := P) hl (by rw [hres]; simp); rw [hrec] at this; exact this, hdone xs _ hS (hIput _ _ _ hi hlt) ((World.putObj_heap_other (by omega)).trans hk)⟩
end Go.Proofs.Ythmjbfocpdiikaa
/-
  order.taken's iterator.
-/
namespace Go.Proofs.Ythmjbfocpdiikaa
open Go.RowKit
set_option linter.unusedVariables false
set_option linter.unusedSimpArgs false
attribute [local go_sem] drewN_alloc drewN_setCell Oper.semAt_some

theorem MemAt.keepB {w w' : World} {A : Option Addr} {n : Nat} {l : List PO.Mem} (h : MemAt w A n l) (hs : w.heap.size ≤ w'.heap.size) (hk : ∀ b off, A = some ⟨b, off, none⟩ → 0 < n → b < w.heap.size → w'.heap[b]? = w.heap[b]?) : MemAt w' A n l :=
  ⟨h.1, h.2.1, h.2.2.1, fun hn => by
    obtain ⟨b, off, e, hb, hc⟩ := h.2.2.2 hn
    have hb' := hk b off e hn hb
    have key : ∀ o, w'.cell? ⟨b, o, none⟩ = w.cell? ⟨b, o, none⟩ := fun o => World.cell?_of_block (w := w) hb'
    exact ⟨b, off, e, Nat.lt_of_lt_of_le hb hs, fun i hi => ⟨(key _).trans (hc i hi).1, (key _).trans (hc i hi).2.1, (key _).trans (hc i hi).2.2.1, (key _).trans (hc i hi).2.2.2⟩⟩⟩

/-- How many are not done, as the array in block d tells. -/
def leftB (d n : Nat) (w : World) : Nat := (List.range n).countP (fun j => match w.cell? ⟨d, j, none⟩ with | some (.bool false) => true | _ => false)
theorem countP_less {p q : Nat → Bool} : ∀ (l : List Nat), (∀ x ∈ l, p x = true → q x = true) → ∀ i ∈ l, q i = true → p i = false → l.countP p < l.countP q
  | [], _, i, hi, _, _ => by simp at hi
  | a :: t, h, i, hi, hq, hp => by
    have hm : t.countP p ≤ t.countP q := List.countP_mono_left (fun x hx => h x (List.mem_cons_of_mem _ hx))
    rw [List.countP_cons, List.countP_cons]
    by_cases e : a = i
    · subst e
      rw [hq, hp]
      simp
      omega
    · have hi' : i ∈ t := by
        rcases List.mem_cons.1 hi with h1 | h1
        · exact absurd h1.symm e
        · exact h1
      have ih := countP_less t (fun x hx => h x (List.mem_cons_of_mem _ hx)) i hi' hq hp
      have ha := h a List.mem_cons_self
      cases hpa : p a <;> cases hqa : q a <;> simp_all <;> omega
theorem leftB_less {d n i : Nat} {w w' : World} {done : List Nat} (h : DoneAt w d n done) (h' : DoneAt w' d n (done ++ [i])) (hi : i < n) (hn : i ∉ done) : leftB d n w' < leftB d n w := by
  refine countP_less _ (fun x hx hp => ?_) i (by simpa using hi) ?_ ?_
  · have hx' : x < n := by simpa using hx
    rw [h' x hx'] at hp
    rw [h x hx']
    by_cases hm : x ∈ done
    · simp [hm] at hp
    · simp [hm]
  · rw [h i hi]; simp [hn]
  · rw [h' i hi]; simp

theorem grownBy_set (w : World) (p : Addr) (u : Value) : w.grownBy (w.setCell p u) (some p.block) := ⟨rfl, rfl, rfl, by simp, fun k _ hk => Below.heap_setCell _ _ _ _ (fun e => hk (by rw [e]))⟩
theorem grownBy_drew (w : World) : w.grownBy w.drew none := ⟨rfl, rfl, rfl, Nat.le_refl _, fun _ _ _ => rfl⟩
def IterRel (W : World) (A : Option Addr) (n c lb fb : Nat) (l : List PO.Mem) (R : List Nat) (J : List (Nat × Int) → World → Prop) (i : Value) (wr : World) : Prop :=
  ∃ (k : Nat) (f : Int) (pre : List (Nat × Int)) (done : List Nat), pre.map (·.1) = done ∧ J pre wr ∧ i = .int .i64 (nextI f l done) ∧ wr.cell? ⟨fb, 0, none⟩ = some (.int .i64 f) ∧ wr.frozen? ⟨fb, 0, none⟩ = false ∧
    wr.cell? ⟨lb, 0, none⟩ = some (.slice A n c) ∧ wr.cell? ⟨W.heap.size + 1, 0, none⟩ = some (.slice (some ⟨W.heap.size, 0, none⟩) n n) ∧ DoneAt wr W.heap.size n done ∧ (∀ j, wr.frozen? ⟨W.heap.size, j, none⟩ = false) ∧
    MemAt wr A n l ∧ PO.Good l k f done ∧ PO.taken l k f done = R ∧ W.heap.size + 1 < wr.heap.size

/-- What a round of the caller leaves as it lay. -/
def KeepsIt (W : World) (A : Option Addr) (n lb fb : Nat) (X Y : World) : Prop :=
  X.heap.size ≤ Y.heap.size ∧ ∀ k, k < X.heap.size → (k = fb ∨ k = lb ∨ k = W.heap.size ∨ k = W.heap.size + 1 ∨ (0 < n ∧ ∃ off, A = some ⟨k, off, none⟩)) → Y.heap[k]? = X.heap[k]?

set_option maxRecDepth 100000 in
set_option maxHeartbeats 8000000 in
theorem taken_iter {A : Option Addr} {n : Nat} {l : List PO.Mem} (c lb fb L : Nat) (f : Int) {W : World} (h : MemAt W A n l) (hn : n ≤ 1000) (hm : PO.may f l = true)
    (cl : W.cell? ⟨lb, 0, none⟩ = some (.slice A n c)) (cf : W.cell? ⟨fb, 0, none⟩ = some (.int .i64 f)) (ff : W.frozen? ⟨fb, 0, none⟩ = false) (hne : lb ≠ fb) (hA : 0 < n → ∀ b off, A = some ⟨b, off, none⟩ → b ≠ fb)
    (Kp : World → World → Prop) (hKp : ∀ X Y, Kp X Y → KeepsIt W A n lb fb X Y) :
    IterGives Try.prog 94 #[.pointer (some ⟨lb, 0, none⟩), .pointer (some ⟨fb, 0, none⟩)] (fun x : Nat × Int => #[.int .i64 (x.1 : Int), .int .i64 x.2]) (fun r => r = fb ∨ r = W.heap.size ∨ r = W.heap.size + 1) Kp
      (fun xs => xs.map (·.1) = PO.takenAll f l) L (W.heap.size + 2) n W := by
  intro J hJ hY h0
  show Calls Try.prog 94 #[.func (.yield L) #[] #[], .pointer (some ⟨lb, 0, none⟩), .pointer (some ⟨fb, 0, none⟩)] W _
  obtain ⟨R, hR⟩ : ∃ R, PO.takenAll f l = R := ⟨_, rfl⟩
  rw [hR]
  have hinfo : (Try.prog.info? 4).map (fun i => (i.zero, i.size, i.bytes)) = some (some (.bool false), 1, 1) := by kernel_rfl
  have hmk := run_make_row' (P := Try.prog) 95 4 (.bool false) 1 Try.underlying95 hinfo rfl .i64 .i64 n (by omega) (by omega)
  obtain ⟨Z, hZ⟩ : ∃ Z, madeCells #[Value.bool false] n = Z := ⟨_, rfl⟩
  rw [hZ] at hmk
  obtain ⟨V, hV⟩ : ∃ V, (W.alloc (.cells Z 4)).alloc (.cells #[.slice (some ⟨W.heap.size, 0, none⟩) n n] 95) = V := ⟨_, rfl⟩
  have hbV : Below W.heap.size W V := by rw [← hV]; exact (by repeat (first | exact Below.refl _ _ | assumption | refine bel_drew ?_ | refine bel_drewN ?_ _ | refine bel_alloc ?_ _ | refine bel_set ?_ (by first | (dsimp only; omega) | (simp; done) | (simp; omega)) _ | refine bel_trans ?_ (by assumption)))
  have sV : W.heap.size + 1 < V.heap.size := by rw [← hV]; simp
  have sl := World.block_lt_of_cell? _ _ cl
  have sf := World.block_lt_of_cell? _ _ cf
  dsimp only at sl sf
  have vl := (hbV.cell (p := ⟨lb, 0, none⟩) sl).trans cl
  have vf := (hbV.cell (p := ⟨fb, 0, none⟩) sf).trans cf
  have vff := (hbV.frozen (p := ⟨fb, 0, none⟩) sf).trans ff
  have vd : V.cell? ⟨W.heap.size + 1, 0, none⟩ = some (.slice (some ⟨W.heap.size, 0, none⟩) n n) := by rw [← hV]; simp [go_sem]
  have vD : DoneAt V W.heap.size n [] := fun j hj => by
    rw [← hV, World.cell?_alloc_lt _ _ _ (by simp)]
    have : (W.alloc (.cells Z 4)).cell? ⟨W.heap.size, j, none⟩ = Z[j]? := by simp [go_sem]
    rw [this, ← hZ]
    simp [madeCells, hj, Nat.mod_one]
  have vDf : ∀ j, V.frozen? ⟨W.heap.size, j, none⟩ = false := fun j => by rw [← hV]; simp [go_sem]
  have vM := h.keep hbV
  have hJV : J [] V := by
    rw [← hV]
    exact hJ _ _ _ none (hJ _ _ _ none h0 (World.grownBy_alloc _ _ _) (fun r e => by cases e)) (World.grownBy_alloc _ _ _) (fun r e => by cases e)
  have hst := PO.good_start hm
  have HA : Hid (l.all PO.ok = true) := Lib.hid (PO.may_iff.1 hm).2.2
  have K0 := Lib.hid (taken_next c lb (W.heap.size + 1) fb W.heap.size f [] vM vl vd vf vD)
  replace hV := Lib.hid hV
  have HY := Lib.hid hY
  have HJ := Lib.hid hJ
  have HKP := Lib.hid hKp
  have HX := Lib.hid h.1
  have HR := Lib.hid hR
  have H0 : Hid (∀ wr, Below V.heap.size V wr → IterRel W A n c lb fb l R J (.int .i64 (nextI f l [])) wr) := Lib.hid (fun wr hb => by
    have hb' : ∀ o, V.cell? o = V.cell? o := fun _ => rfl
    exact ⟨l.length, f, [], [], rfl, hJ _ _ _ none hJV ⟨hb.os, hb.tape, hb.output, hb.size, fun i hi _ => hb.block i hi⟩ (fun r e => by cases e), rfl, (hb.cell (p := ⟨fb, 0, none⟩) (by dsimp only; omega)).trans vf, (hb.frozen (p := ⟨fb, 0, none⟩) (by dsimp only; omega)).trans vff,
      (hb.cell (p := ⟨lb, 0, none⟩) (by dsimp only; omega)).trans vl, (hb.cell (p := ⟨W.heap.size + 1, 0, none⟩) sV).trans vd, fun j hj => (hb.cell (p := ⟨W.heap.size, j, none⟩) (by dsimp only; omega)).trans (vD j hj), fun j => (hb.frozen (p := ⟨W.heap.size, j, none⟩) (by dsimp only; omega)).trans (vDf j),
      vM.keep hb, hst, hR, Nat.lt_of_lt_of_le sV hb.size⟩)
  have HAB : Hid (0 < n → ∃ b off, A = some ⟨b, off, none⟩ ∧ b < W.heap.size ∧ b ≠ fb) := Lib.hid (fun h0 => by
    obtain ⟨b, off, e, hb, _⟩ := h.2.2.2 h0
    exact ⟨b, off, e, hb, hA h0 b off e⟩)
  clear hA
  clear hY hJ hKp vl vf vff vd vD vDf vM hJV hst h hm hR hZ cf ff h0 hinfo
  go_enter Try.func94, Try.ntmps94
  go_wp2_with fail
  rw [hV.out]
  refine K0.out.mono ?_
  rintro e w1 ⟨rfl, h1⟩
  go_wp2_with fail
  go_loopw [6] (fun i wr => IterRel W A n c lb fb l R J i wr) (fun _ wr => leftB W.heap.size n wr)
  case atStart => exact H0.out _ h1
  case round =>
    obtain ⟨k, f, pre, done, hpre, hJs, rfl, yf, yff, yl, yd, yD, yDf, yM, hg, ht, hsz⟩ := hrel
    cases hnx : PO.next f l done with
    | none =>
      have e : nextI f l done = -1 := by unfold nextI; rw [hnx]
      rw [e]
      have HE : Hid (pre.map (·.1) = R) := Lib.hid (by rw [hpre, ← ht, PO.taken_none hnx])
      have HJS := Lib.hid hJs
      clear hpre hJs yf yff yl yd yD yDf yM hg ht hnx e
      go_wp2_with fail
      go_end0
      exact ⟨⟨_, rfl⟩, pre, HE.out, HJS.out⟩
    | some i0 =>
      have e : nextI f l done = (i0 : Int) := by unfold nextI; rw [hnx]
      rw [e]
      obtain ⟨n1, n2, n3, _⟩ := PO.next_some.1 hnx
      have hi0 : i0 < n := by rw [← HX.out]; exact n1
      obtain ⟨b, off, rfl, hb, hbf⟩ := HAB.out (by omega)
      obtain ⟨b', off', e', hb', hcs⟩ := yM.2.2.2 (by omega)
      obtain ⟨rfl, rfl⟩ : b = b' ∧ off = off' := by simpa using e'
      obtain ⟨x0, x1, x2, x3⟩ := hcs i0 hi0
      obtain ⟨m, hmm⟩ : ∃ m, l.getD i0 PO.m0 = m := ⟨_, rfl⟩
      have hok := PO.ok_held (PO.ok_get HA.out n1)
      rw [hmm] at x0 x1 x2 x3 hok
      obtain ⟨k1, k2⟩ := hok
      obtain ⟨k', rfl, hg'⟩ := PO.good_next HA.out hg hnx
      have ht' := (PO.taken_some hnx).symm.trans ht
      rw [hmm] at hg' ht'
      have hf0 : 0 ≤ f := hg.2.2.2.1
      have hpl : Hid (pre.length < n) := Lib.hid (by have e1 := congrArg List.length hpre; rw [List.length_map] at e1; have := hg.2.2.1; have := HX.out; omega)
      have hf1 : f ≤ 2000000000 := by have := hg.2.2.2.2; have := hg.2.2.1; have := HX.out; omega
      have wf : IntKind.i64.wrap (f + m.2.2.1) = f + m.2.2.1 := IntWalk.i64_in _ (by omega)
      have j0 : (0 : Int) ≤ (i0 : Int) := by omega
      have j1 : (i0 : Int) < (n : Int) := by omega
      have yd0 := yD i0 hi0
      have ydf := yDf i0
      have HNX := Lib.hid hnx
      have HG' := Lib.hid hg'
      have HT' := Lib.hid ht'
      have HPRE := Lib.hid hpre
      have HJS := Lib.hid hJs
      have HYD := Lib.hid yD
      have HYDF := Lib.hid yDf
      have HYM := Lib.hid yM
      have HCS := Lib.hid hcs
      have hn1 := Lib.hid n1
      have hn2 := Lib.hid n2
      clear e n1 n2 n3 e' hcs hmm hg hg' ht ht' hnx hpre hJs yD yDf yM
      go_wp2_with fail
      obtain ⟨V1, hV1⟩ : ∃ V1, wr.setCell ⟨W.heap.size, i0, none⟩ (.bool true) = V1 := ⟨_, rfl⟩
      have far : ∀ p : Addr, p.block ≠ W.heap.size → V1.cell? p = wr.cell? p := fun p hp => by rw [← hV1]; exact World.cell?_setCell_other _ _ _ _ (by rintro rfl; exact hp rfl)
      have z0 := (far ⟨fb, 0, none⟩ (by dsimp only; omega)).trans yf
      have z1 := (far ⟨lb, 0, none⟩ (by dsimp only; omega)).trans yl
      have z2 := (far ⟨b, off + i0 * 4 + 2, none⟩ (by dsimp only; omega)).trans x2
      have zf : V1.frozen? ⟨fb, 0, none⟩ = false := by rw [← hV1]; simpa [go_sem] using yff
      rw [hV1]
      have hcd : ∀ a, ({ heap := V1.heap, tape := V1.tape, drawn := V1.drawn + 1, os := V1.os, output := V1.output } : World).cell? a = V1.cell? a := fun _ => rfl
      have hcf : ∀ a, ({ heap := V1.heap, tape := V1.tape, drawn := V1.drawn + 1, os := V1.os, output := V1.output } : World).frozen? a = V1.frozen? a := fun _ => rfl
      go_still_tail 8, (by kernel_rfl)
      go_upto_region 7 with (fail)
      refine region_name ?_
      rintro V2 hV2
      obtain ⟨f2, hf2⟩ : ∃ f2, f + m.2.2.1 = f2 := ⟨_, rfl⟩
      rw [hf2] at hV2
      have z0w : wr.cell? ⟨fb, 0, none⟩ = some (.int .i64 f) := yf
      have s2 : V2.heap.size = wr.heap.size := by rw [hV2, ← hV1]; simp
      have hJ2 : J pre V2 := by
        rw [hV2]
        exact HJ.out _ _ _ none (HJ.out _ _ _ (some fb) (by rw [← hV1]; exact HJ.out _ _ _ (some W.heap.size) HJS.out (grownBy_set wr ⟨W.heap.size, i0, none⟩ _) (fun r e => by cases e; exact .inr (.inl rfl))) (grownBy_set V1 ⟨fb, 0, none⟩ _) (fun r e => by cases e; exact .inl rfl)) (grownBy_drew _) (fun r e => by cases e)
      have far2 : ∀ p : Addr, p.block ≠ fb → V2.cell? p = V1.cell? p := fun p hp => by rw [hV2]; exact World.cell?_setCell_other _ _ _ _ (by rintro rfl; exact hp rfl)
      have t0 : V2.cell? ⟨fb, 0, none⟩ = some (.int .i64 f2) := by rw [hV2]; exact World.cell?_setCell_same _ _ _ z0
      have tf : V2.frozen? ⟨fb, 0, none⟩ = false := by rw [hV2]; simpa [go_sem] using zf
      have t1 := (far2 ⟨lb, 0, none⟩ (by dsimp only; omega)).trans z1
      have t2 : V2.cell? ⟨W.heap.size + 1, 0, none⟩ = some (.slice (some ⟨W.heap.size, 0, none⟩) n n) := ((far2 _ (by dsimp only; omega)).trans (far _ (by dsimp only; omega))).trans yd
      have t3 : DoneAt V2 W.heap.size n (done ++ [i0]) := fun j hj => by
        rw [far2 _ (by dsimp only; omega), ← hV1]
        by_cases hji : j = i0
        · subst hji
          rw [World.cell?_setCell_same _ _ _ (HYD.out j hj)]
          simp
        · rw [World.cell?_setCell_other _ _ _ _ (by first | (simp; done) | (simp; exact fun e => hji e.symm)), HYD.out j hj]
          simp [hji]
      have t4 : ∀ j, V2.frozen? ⟨W.heap.size, j, none⟩ = false := fun j => by
        rw [hV2, ← hV1]
        have := HYDF.out j
        simpa [go_sem] using this
      have t5 : MemAt V2 (some ⟨b, off, none⟩) n l := HYM.out.keepB (by omega) (fun b2 off2 e _ hb2 => by
        cases e
        rw [hV2, ← hV1]
        show ((wr.setCell _ _).setCell _ _).heap[b]? = _
        rw [Below.heap_setCell _ _ _ _ (by dsimp only; omega), Below.heap_setCell _ _ _ _ (by dsimp only; omega)])
      obtain ⟨fn, tmps, assign, body, hy, hR⟩ := HY.out pre (i0, f2) V2 hJ2 (by omega) hpl.out 0
      rw [hf2] at HG' HT'
      clear hV2 far far2 z0 z1 z2 zf z0w hJ2 x0 x1 x2 x3 hcd hcf hV1
      have T3 := Lib.hid t3
      have T4 := Lib.hid t4
      have T5 := Lib.hid t5
      clear t3 t4 t5
      rw [hf2]
      dsimp only at hy
      refine (wpIn_wide (n := 1)).1 ?_
      gi_wp2
      refine hR.mono ?_
      rintro e W3 ⟨rfl, hJ3, hk3⟩
      obtain ⟨ks, kb⟩ := HKP.out _ _ hk3
      have sb : b < V2.heap.size := by omega
      have kc : ∀ p : Addr, p.block < V2.heap.size → (p.block = fb ∨ p.block = lb ∨ p.block = W.heap.size ∨ p.block = W.heap.size + 1 ∨ (0 < n ∧ ∃ off', some (⟨b, off, none⟩ : Addr) = some ⟨p.block, off', none⟩)) → W3.cell? p = V2.cell? p := fun p h1 h2 => World.cell?_of_block (w := V2) (kb _ h1 h2)
      have kf : ∀ p : Addr, p.block < V2.heap.size → (p.block = fb ∨ p.block = lb ∨ p.block = W.heap.size ∨ p.block = W.heap.size + 1 ∨ (0 < n ∧ ∃ off', some (⟨b, off, none⟩ : Addr) = some ⟨p.block, off', none⟩)) → W3.frozen? p = V2.frozen? p := fun p h1 h2 => World.frozen?_of_block (w := V2) (kb _ h1 h2)
      have q0 := (kc ⟨fb, 0, none⟩ (by dsimp only; omega) (.inl rfl)).trans t0
      have qf := (kf ⟨fb, 0, none⟩ (by dsimp only; omega) (.inl rfl)).trans tf
      have q1 := (kc ⟨lb, 0, none⟩ (by dsimp only; omega) (.inr (.inl rfl))).trans t1
      have q2 := (kc ⟨W.heap.size + 1, 0, none⟩ (by dsimp only; omega) (.inr (.inr (.inr (.inl rfl))))).trans t2
      have q3 : DoneAt W3 W.heap.size n (done ++ [i0]) := fun j hj => (kc ⟨W.heap.size, j, none⟩ (by dsimp only; omega) (.inr (.inr (.inl rfl)))).trans (T3.out j hj)
      have q4 : ∀ j, W3.frozen? ⟨W.heap.size, j, none⟩ = false := fun j => (kf ⟨W.heap.size, j, none⟩ (by dsimp only; omega) (.inr (.inr (.inl rfl)))).trans (T4.out j)
      have q5 := T5.out.keepB ks (fun b2 off2 e h0 hb2 => kb _ hb2 (by cases e; exact .inr (.inr (.inr (.inr ⟨h0, off, rfl⟩)))))
      have KN := Lib.hid (taken_next c lb (W.heap.size + 1) fb W.heap.size f2 (done ++ [i0]) q5 q1 q2 q0 q3)
      have HREL : Hid (∀ w4, Below W3.heap.size W3 w4 → IterRel W (some ⟨b, off, none⟩) n c lb fb l R J (.int .i64 (nextI f2 l (done ++ [i0]))) w4 ∧ leftB W.heap.size n w4 < leftB W.heap.size n wr) := Lib.hid (fun w4 hb4 => by
        have sW : W.heap.size + 1 < W3.heap.size := by omega
        have d4 : DoneAt w4 W.heap.size n (done ++ [i0]) := fun j hj => (hb4.cell (p := ⟨W.heap.size, j, none⟩) (by dsimp only; omega)).trans (q3 j hj)
        exact ⟨⟨k', f2, pre ++ [(i0, f2)], done ++ [i0], by simp [HPRE.out], HJ.out _ _ _ none hJ3 ⟨hb4.os, hb4.tape, hb4.output, hb4.size, fun i hi _ => hb4.block i hi⟩ (fun r e => by cases e), rfl, (hb4.cell (p := ⟨fb, 0, none⟩) (by dsimp only; omega)).trans q0, (hb4.frozen (p := ⟨fb, 0, none⟩) (by dsimp only; omega)).trans qf,
          (hb4.cell (p := ⟨lb, 0, none⟩) (by dsimp only; omega)).trans q1, (hb4.cell (p := ⟨W.heap.size + 1, 0, none⟩) (by dsimp only; omega)).trans q2, d4, fun j => (hb4.frozen (p := ⟨W.heap.size, j, none⟩) (by dsimp only; omega)).trans (q4 j),
          q5.keep hb4, HG'.out, HT'.out, Nat.lt_of_lt_of_le sW hb4.size⟩, leftB_less HYD.out d4 hi0 hn2.out⟩)
      clear kb kc kf hJ3 hk3 qf q3 q4 q5 q0 q1 q2 t0 tf t1 t2 hR hy
      gi_wp2
      go_wp2_with fail
      refine KN.out.mono ?_
      rintro e w4 ⟨rfl, h4⟩
      go_wp2_with fail
      go_roundw
      case rel => exact (HREL.out _ h4).1
      case measure => exact (HREL.out _ h4).2
end Go.Proofs.Ythmjbfocpdiikaa
/-
  order.taken and order.Order.
-/
namespace Go.Proofs.Ythmjbfocpdiikaa
open Go.RowKit
set_option linter.unusedVariables false
set_option linter.unusedSimpArgs false
attribute [local go_sem] drewN_alloc drewN_setCell Oper.semAt_some

/-- What Order's own cells hold between two rounds. -/
def OrdI (w : World) (s : Nat) (xs : List (Nat × Int)) (X : World) : Prop :=
  ∃ v, X.cell? ⟨s + 1, 0, none⟩ = some v ∧ X.frozen? ⟨s + 1, 0, none⟩ = false ∧ OwnI w.heap.size X v (PO.ints (xs.map (·.1))) ∧ (∀ k, v.ownBlock = some k → k = s ∨ s + 8 ≤ k) ∧ Below w.heap.size w X ∧ w.heap.size ≤ s
theorem OrdI.grown {w X Y : World} {s : Nat} {xs : List (Nat × Int)} {row : Option Nat} (h : OrdI w s xs X) (hg : X.grownBy Y row) (hr : ∀ r, row = some r → s + 2 ≤ r ∧ r ≤ s + 7) : OrdI w s xs Y := by
  obtain ⟨v, h1, h2, h3, h4, h5, h6⟩ := h
  have hne : some (s + 1) ≠ row := fun e => by have := hr _ e.symm; omega
  have hlt := World.block_lt_of_cell? _ _ h1
  refine ⟨v, hg.cell h1 hne, (hg.frozen_far _ hlt hne).trans h2, ⟨h3.1, ?_⟩, h4, h5.grown hg h5.size (fun k e => by have := hr k e; omega), h6⟩
  rcases h3.2 with ⟨rfl, e⟩ | ⟨g, cap, cur, rfl, hb, hgg, r⟩
  · exact .inl ⟨rfl, e⟩
  · refine .inr ⟨g, cap, cur, rfl, hb, ?_, r⟩
    refine (hg.block g (Array.getElem?_eq_some_iff.1 hgg).1 (fun e => ?_)).trans hgg
    have a := h4 g rfl
    have b := hr g e.symm
    omega
def OrdK (s n : Nat) (A : Option Addr) (X Y : World) : Prop :=
  X.heap.size ≤ Y.heap.size ∧ ∀ k, k < X.heap.size → (k = s + 1 + 1 ∨ k = s + 1 + 1 + 1 ∨ k = s + 6 ∨ k = s + 7 ∨ (0 < n ∧ ∃ off, A = some ⟨k, off, none⟩)) → Y.heap[k]? = X.heap[k]?
theorem OrdK.trans {s n : Nat} {A : Option Addr} {X Y Z : World} (h : OrdK s n A X Y) (k : OrdK s n A Y Z) : OrdK s n A X Z :=
  ⟨Nat.le_trans h.1 k.1, fun i hi hh => (k.2 i (Nat.lt_of_lt_of_le hi h.1) hh).trans (h.2 i hi hh)⟩
theorem order_taken (A : Option Addr) (n c : Nat) (f : Int) (w : World) :
    Calls Try.prog 73 #[.int .i64 f, .slice A n c] w fun e w' => e = .returned (.func (.func 94) #[] #[.pointer (some ⟨w.heap.size + 1, 0, none⟩), .pointer (some ⟨w.heap.size, 0, none⟩)]) ∧
      (w.alloc (.cells #[.int .i64 f] 3)).alloc (.cells #[.slice A n c] 23) = w' := by
  go_enter Try.func73, Try.ntmps73
  go_wp2_with fail
  go_ret
  exact ⟨rfl, rfl⟩

theorem run_make_none {P : Program} (t e : TypeId) (z : Value) (bytes : Nat) (ht : P.underlying t = some (.slice e)) (hinfo : (P.info? e).map (fun i => (i.zero, i.size, i.bytes)) = some (some z, 1, bytes)) (hz1 : z.cells = #[z])
    (kl kc : IntKind) (n : Nat) (hbytes : bytes * n ≤ 281474976710656) (h63 : n ≤ 9223372036854775807) (w : World) :
    (Instr.makeSlice t (.int kl 0) (.int kc (n : Int))).run P w = .ok (.slice (some ⟨w.heap.size, 0, none⟩) 0 n) (w.alloc (.cells (madeCells #[z] n) e)) := by
  obtain ⟨i, hi, hzz⟩ := Option.map_eq_some_iff.1 hinfo
  simp only [Prod.mk.injEq] at hzz
  obtain ⟨hz, hs, hb⟩ := hzz
  have hb' : (i.bytes : Int) * (n : Int) ≤ 281474976710656 := by
    have h : ((i.bytes * n : Nat) : Int) ≤ 281474976710656 := by rw [hb]; omega
    rwa [Int.natCast_mul] at h
  have hr := run_make (P := P) w t e i z ht hi hz kl kc 0 n (by omega) (by omega) hb' (by omega)
  simp only [Int.toNat_natCast, hs, Nat.mul_one, hz1, Int.toNat_zero] at hr
  exact hr
theorem own_made (n : Nat) (hn : n ≤ 100000) (w : World) : OwnI w.heap.size (w.alloc (.cells (madeCells #[.int .i64 0] n) 3)) (.slice (some ⟨w.heap.size, 0, none⟩) 0 n) [] :=
  ⟨rfl, .inr ⟨w.heap.size, n, madeCells #[.int .i64 0] n, rfl, Nat.le_refl _, World.alloc_heap_new _ _, Nat.zero_le _, by unfold maxLen; omega, by rw [size_madeCells, Nat.mul_one], by simp [cellsI]⟩⟩

theorem app_listIn {F : Fence} {n : Nat} {ops : Array Oper} {rest : List Oper} {o : Oper} {a : Act} {Q : Exit → Act → World → Prop} {w : World} (hgd : o.guard = none) (s x : Operand)
    (ho : o.op = .call { callee := .builtin .append, args := #[s, x], argTypes := #[41, 41] })
    (B : Nat) (v : Value) (l : List Int) (hsv : a.eval s = v) (hown : OwnI B w v l)
    (A : Option Addr) (m c : Nat) (l2 : List Int) (hx : a.eval x = .slice A m c) (hs : SrcS 1 w A m (cellsI l2)) (hlen : l.length + m ≤ 1048576) (hbase : B ≤ w.heap.size)
    (h : ∀ v' w', OwnI B w' v' (l ++ l2) → w.grownBy w' v.ownBlock → (v'.ownBlock = v.ownBlock ∨ v'.ownBlock = some w.heap.size) → wpListIn F n Try.prog ops Q rest (a.put o.dst v') w') : wpListIn F n Try.prog ops Q (o :: rest) a w := by
  obtain ⟨i, hi, hz, hsz, hby⟩ := infoInt
  refine wpListIn_plain hgd fun K hK' => ?_
  obtain ⟨v', w', hrun, r1, r2, r3⟩ := run_append_S (P := Try.prog) w 1 (by decide) B 41 o.type 3 i _ 8 Try.underlying41 hi hz hsz hby rfl v l.length _ hown A m c _ hs (cellsI_one' l2) (by unfold maxLen; omega) (by omega) hbase
  unfold Oper.wpIn
  refine ⟨?_, ?_⟩
  · simp [Oper.about, ho, resolve, Target.leads, Sem.run_pure]
  · rw [Oper.semAt_plain F _ _ (by rw [ho]; intro c hc'; cases hc')]
    simp only [execOp, ho, resolve, invoke, builtin, Sem.run_bind, Sem.run_pure, Result.andThen_ok, List.map_toArray, List.map_cons, List.map_nil, hsv, hx, hrun]
    refine hK' _ _ (h v' w' ?_ r2 r3)
    have hm : m = l2.length := by have := hs.1; simp only [cellsI, List.length_map] at this; omega
    unfold OwnI
    rw [cellsI_append, List.length_append, ← hm]
    exact r1

set_option maxRecDepth 100000 in
set_option maxHeartbeats 8000000 in
theorem order_Order_yes {A : Option Addr} {n : Nat} {l : List PO.Mem} (c : Nat) (free : Int) {w : World} (h : MemAt w A n l) (hn : n ≤ 1000) (hm : PO.may free l = true) :
    Calls Try.prog 45 #[.int .i64 free, .slice A n c] w fun e w' => ∃ v, e = .returned (.tuple #[v, .bool (PO.order free l).2]) ∧ OwnI w.heap.size w' v (PO.ints (PO.order free l).1) ∧ Below w.heap.size w w' := by
  have K1 := order_may c free h
  rw [hm] at K1
  replace K1 := Lib.hid K1
  have hinfo : (Try.prog.info? 3).map (fun i => (i.zero, i.size, i.bytes)) = some (some (.int .i64 0), 1, 8) := by kernel_rfl
  have hmk := run_make_none (P := Try.prog) 41 3 (.int .i64 0) 8 Try.underlying41 hinfo rfl .i64 .i64 n (by omega) (by omega)
  obtain ⟨Z, hZ⟩ : ∃ Z, madeCells #[Value.int .i64 0] n = Z := ⟨_, rfl⟩
  rw [hZ] at hmk
  have HOM : Hid (∀ W : World, OwnI W.heap.size (W.alloc (.cells Z 3)) (.slice (some ⟨W.heap.size, 0, none⟩) 0 n) []) := Lib.hid (fun W => by rw [← hZ]; exact own_made n (by omega) W)
  have HM := Lib.hid hm
  have H := Lib.hid h
  clear hinfo hZ hm h
  refine callsIn_wide (n := 3) |>.1 ?_
  refine callsIn_of_wp_marks Try.func45 rfl trivial ?_ rfl
  simp only [Try.ntmps45, List.size_toArray, List.length_cons, List.length_nil, Nat.reduceAdd, Nat.reduceSub, Array.replicate_succ, Array.replicate_zero, List.push_toArray, List.append_toArray, List.nil_append, List.cons_append]
  refine wpIn_wide.2 ?_
  go_wp2_with fail
  refine K1.out.mono ?_
  rintro e w1 ⟨rfl, h1⟩
  go_wp2_with fail
  refine (order_taken A n c free _).mono ?_
  rintro e w2 ⟨rfl, hw2⟩
  go_wp2_with fail
  obtain ⟨s, hs⟩ : ∃ s, w1.heap.size = s := ⟨_, rfl⟩
  have HSW : w.heap.size ≤ s := by rw [← hs]; exact h1.size
  have hs2 : w2.heap.size = s + 4 := by rw [← hw2, ← hs]; simp
  have h12 : Below s w1 w2 := by rw [← hw2, ← hs]; exact (by repeat (first | exact Below.refl _ _ | assumption | refine bel_drew ?_ | refine bel_drewN ?_ _ | refine bel_alloc ?_ _ | refine bel_set ?_ (by first | (dsimp only; omega) | (simp; done) | (simp; omega)) _ | refine bel_trans ?_ (by assumption)))
  have hB2 : Below w.heap.size w w2 := h1.trans (h12.mono HSW)
  have hM2 := H.out.keep hB2
  have hO2 : OwnI w.heap.size w2 (.slice (some ⟨s, 0, none⟩) 0 n) [] := by
    have q := HOM.out w1
    have k : Below (w1.alloc (.cells Z 3)).heap.size (w1.alloc (.cells Z 3)) w2 := by rw [← hw2]; exact (by repeat (first | exact Below.refl _ _ | assumption | refine bel_drew ?_ | refine bel_drewN ?_ _ | refine bel_alloc ?_ _ | refine bel_set ?_ (by first | (dsimp only; omega) | (simp; done) | (simp; omega)) _ | refine bel_trans ?_ (by assumption)))
    have q2 := q.keep k
    rw [hs] at q2
    exact q2.mono HSW
  have co : w2.cell? ⟨s + 1, 0, none⟩ = some (.slice (some ⟨s, 0, none⟩) 0 n) := by rw [← hw2, ← hs]; simp [go_sem]
  have cof : w2.frozen? ⟨s + 1, 0, none⟩ = false := by rw [← hw2, ← hs]; simp [go_sem]
  have cf : w2.cell? ⟨s + 1 + 1, 0, none⟩ = some (.int .i64 free) := by rw [← hw2, ← hs]; simp [go_sem]
  have cff : w2.frozen? ⟨s + 1 + 1, 0, none⟩ = false := by rw [← hw2, ← hs]; simp [go_sem]
  have cl : w2.cell? ⟨s + 1 + 1 + 1, 0, none⟩ = some (.slice A n c) := by rw [← hw2, ← hs]; simp [go_sem]
  have hAB : Hid (0 < n → ∀ b off, A = some ⟨b, off, none⟩ → b < s) := Lib.hid (fun h0 b off e => by
    obtain ⟨b', off', e', hb, _⟩ := H.out.2.2.2 h0
    rw [e] at e'
    cases e'
    omega)
  clear hw2 h12 hmk HOM K1
  rw [hs]
  clear hs h1 w1
  refine (wpIn_wide (n := 3)).1 ?_
  refine range_plain (gf := 94) (lb := #[.pointer (some ⟨s + 1 + 1 + 1, 0, none⟩), .pointer (some ⟨s + 1 + 1, 0, none⟩)]) (encs := fun x : Nat × Int => #[.int .i64 (x.1 : Int), .int .i64 x.2]) rfl (fun args w => by simp [go_sem]) (fun x => rfl)
    (fun xs X => OrdI w s xs X) (fun X Y => OrdK s n A X Y) (fun xs => xs.map (·.1) = PO.takenAll free l) (fun r => r = s + 1 + 1 ∨ r = s + 6 ∨ r = s + 7) (s + 8) n ?_ ?_ ?_ ?_ ?_ ?_ ?_ ?_
    (fun x => { tmps := #[.int .i64 free, .slice A n c, undef, undef, .slice none 0 0, .bool false, .pointer (some ⟨s + 1, 0, none⟩), .int .i64 (x.1 : Int), .int .i64 free, .slice A n c, .bool true, .bool false, .slice A n c, .int .i64 (n : Int), .slice (some ⟨s, 0, none⟩) 0 n, .int .i64 free, .slice A n c, .func (.func 94) #[] #[.pointer (some ⟨s + 1 + 1 + 1, 0, none⟩), .pointer (some ⟨s + 1 + 1, 0, none⟩)], .int .i64 (x.1 : Int), .int .i64 x.2, undef, undef, undef, undef, undef, undef, undef, undef, undef, undef], defers := [] }) ?_ ?_ ?_
  · exact fun xs X Y row hI hg hr => hI.grown hg (fun r e => by rcases hr r e with h | h | h <;> omega)
  · rw [hs2]; omega
  · rw [hs2]; omega
  · intro xs X o hI hlt
    exact hI.grown (grownBy_putObj' X _ o) (fun r e => by cases e; rw [hs2]; omega)
  · intro X o hlt
    refine ⟨by simp, fun k hk hh => World.putObj_heap_other ?_⟩
    rw [hs2]
    rcases hh with h | h | h | h | ⟨h0, off, e⟩
    · omega
    · omega
    · omega
    · omega
    · have := hAB.out h0 k off e; omega
  · exact fun X Y Z h k => h.trans k
  · intro o
    have hI0 : OrdI w s [] w2 := ⟨_, co, cof, hO2, fun k e => .inl (by simpa [Value.ownBlock] using e.symm), hB2, HSW⟩
    exact (hI0.grown (World.grownBy_alloc _ _ none) (fun r e => by cases e)).grown (World.grownBy_alloc _ _ none) (fun r e => by cases e)
  · intro o
    obtain ⟨W, hW⟩ : ∃ W, (w2.alloc (.deferred (some []))).alloc o = W := ⟨_, rfl⟩
    rw [hW]
    have hbW : Below w2.heap.size w2 W := by rw [← hW]; exact (by repeat (first | exact Below.refl _ _ | assumption | refine bel_drew ?_ | refine bel_drewN ?_ _ | refine bel_alloc ?_ _ | refine bel_set ?_ (by first | (dsimp only; omega) | (simp; done) | (simp; omega)) _ | refine bel_trans ?_ (by assumption)))
    have sW : W.heap.size = s + 6 := by rw [← hW]; simp [hs2]
    have q := taken_iter c (s + 1 + 1 + 1) (s + 1 + 1) (w2.heap.size + 1) free (hM2.keep hbW) hn HM.out ((hbW.cell (p := ⟨s + 1 + 1 + 1, 0, none⟩) (by dsimp only; omega)).trans cl) ((hbW.cell (p := ⟨s + 1 + 1, 0, none⟩) (by dsimp only; omega)).trans cf) ((hbW.frozen (p := ⟨s + 1 + 1, 0, none⟩) (by dsimp only; omega)).trans cff) (by omega)
      (fun h0 b off e => by have := hAB.out h0 b off e; omega) (OrdK s n A) (fun X Y h => ⟨h.1, fun k hk hh => h.2 k hk (by rw [sW] at hh; rcases hh with h | h | h | h | h <;> simp [h])⟩)
    rw [sW] at q
    exact q
  · intro L m x W K hK
    gi_wp2
    exact hK
  · rintro L m pre x X hI hlt hsz hN
    clear hM2 hO2 co cof cf cff cl hB2
    have HI := Lib.hid hI
    obtain ⟨v, c1, f1, o1, k1, b1, _⟩ := hI
    obtain ⟨D, hD⟩ : ∃ D, pre.map (·.1) = D := ⟨_, rfl⟩
    rw [hD] at o1
    have hDl : D.length = pre.length := by rw [← hD, List.length_map]
    obtain ⟨A1, d1, rfl, _⟩ := o1.slice
    have HO := Lib.hid (o1.keep (bel_alloc (Below.refl X.heap.size X) (.cells #[.int .i64 (x.1 : Int)] 3)))
    have sb := b1.size
    have hpl : (PO.ints D).length + 1 ≤ 1048576 := by rw [PO.ints_len]; omega
    clear hDl
    gi_wp2_with (gi_at_builtin; (refine app_listIn rfl (.tmp 20) (.tmp 22) rfl w.heap.size _ (PO.ints D) rfl HO.out (some ⟨X.heap.size, 0, none⟩) 1 1 [(x.1 : Int)] rfl (src_oneI (by simp [go_sem])) hpl (by simp; omega) ?_; intro v' w' ho hg hor; obtain ⟨A2, d2, rfl, _⟩ := ho.ints; have hne : some (s + 1) ≠ (Value.slice A1 D.length d1).ownBlock := (fun e => by have := k1 _ e.symm; omega); have c2 := hg.cell (cell_alloc (.cells #[.int .i64 (x.1 : Int)] 3) (show s + 1 < X.heap.size by omega) c1) hne; have f2 := (hg.frozen_far ⟨s + 1, 0, none⟩ (by simp; omega) hne).trans (frozen_alloc (.cells #[.int .i64 (x.1 : Int)] 3) (show s + 1 < X.heap.size by omega) f1)))
    have hg' : (X.alloc (.cells #[.int .i64 (x.1 : Int)] 3)).grownBy w' (Value.slice A1 D.length d1).ownBlock := hg
    have hor' : (Value.slice A2 (PO.ints D ++ [(x.1 : Int)]).length d2).ownBlock = (Value.slice A1 D.length d1).ownBlock ∨ (Value.slice A2 (PO.ints D ++ [(x.1 : Int)]).length d2).ownBlock = some (X.alloc (.cells #[.int .i64 (x.1 : Int)] 3)).heap.size := hor
    have hl : (PO.ints D ++ [(x.1 : Int)]).length = (PO.ints D).length + 1 := by simp
    rw [hl] at ho hor'
    clear hg hor
    obtain ⟨V, hV⟩ : ∃ V, Value.slice A2 ((PO.ints D).length + 1) d2 = V := ⟨_, rfl⟩
    rw [hV] at ho hor' ⊢
    have hk2 : ∀ k, V.ownBlock = some k → k = s ∨ s + 8 ≤ k := fun k e => by
      rcases hor' with h | h
      · exact k1 k (h.symm.trans e)
      · rw [h] at e; simp at e; omega
    have key : ∀ k, k < X.heap.size → (k < s ∨ (s + 1 < k ∧ k < s + 8)) → (w'.setCell ⟨s + 1, 0, none⟩ V).heap[k]? = X.heap[k]? := fun k hk hh => by
      rw [Below.heap_setCell _ _ _ _ (by dsimp only; omega)]
      exact (hg'.block k (by simp; omega) (fun e => by have := k1 k e.symm; omega)).trans (Below.heap_alloc _ _ _ hk)
    have hsz2 := hg'.size
    simp only [World.size_alloc] at hsz2
    refine ⟨key _ (by omega) (by rw [hs2]; omega), key _ (by omega) (by rw [hs2]; omega), ⟨by rw [World.size_setCell]; omega, fun k hk hh => key k hk ?_⟩, V, World.cell?_setCell_same _ _ _ c2, by rw [World.frozen?_setCell]; exact f2, ?_, hk2, ?_, HSW⟩
    · rcases hh with h | h | h | h | ⟨h0, off, e⟩
      · omega
      · omega
      · omega
      · omega
      · have := hAB.out h0 k off e; omega
    · rw [List.map_append, hD]
      show OwnI w.heap.size _ V (PO.ints (D ++ [x.1]))
      rw [PO.ints_snoc]
      refine ⟨ho.1, ?_⟩
      rcases ho.2 with ⟨e1, e2⟩ | ⟨g, cap, cur, e1, hb, hgg, r⟩
      · exact .inl ⟨e1, e2⟩
      · refine .inr ⟨g, cap, cur, e1, hb, ?_, r⟩
        rw [Below.heap_setCell _ _ _ _ (by have := hk2 g (by rw [e1]; rfl); dsimp only; omega)]
        exact hgg
    · exact ((b1.alloc b1.size _).grown hg' (by simp; omega) (fun k e => by have := k1 k e; omega)).setCell (by dsimp only; omega) _
  · rintro xs X hS hI hK
    clear hM2 hO2 co cof cf cff cl hB2
    rw [hs2] at hK ⊢
    have HI := Lib.hid hI
    have e : PO.order free l = (if PO.may free l = false then ([], false) else if (PO.takenAll free l).length < l.length then ([], false) else (PO.takenAll free l, true)) := rfl
    rw [if_neg (by rw [HM.out]; simp), H.out.1] at e
    obtain ⟨v, c1, f1, o1, k1, b1, _⟩ := hI
    rw [hS] at o1
    generalize PO.takenAll free l = d at *
    obtain ⟨A1, d1, rfl, _⟩ := o1.slice
    have hKI : OrdI w s xs (X.putObj (s + 4) (.deferred none)) := HI.out.grown (grownBy_putObj' X _ _) (fun r e => by cases e; omega)
    have hfin : OwnI w.heap.size (X.putObj (s + 4) (.deferred none)) (.slice A1 d.length d1) (PO.ints d) ∧ Below w.heap.size w (X.putObj (s + 4) (.deferred none)) := by
      obtain ⟨v2, q1, q2, q3, q4, q5, _⟩ := hKI
      rw [hS] at q3
      have hc := ((grownBy_putObj' X (s + 4) (.deferred none)).cell c1 (by simp)).symm.trans q1
      cases hc
      exact ⟨q3, q5⟩
    replace hfin := Lib.hid hfin
    clear hKI o1 k1 b1 hS
    by_cases hd : d.length < n
    · rw [if_pos hd] at e
      have E := Lib.hid e
      have g1 : (d.length : Int) < (n : Int) := by omega
      clear hd e
      go_wp2_with fail
      refine ⟨by simp, .inl ⟨_, _, rfl, run_takeDeferred hK, ?_⟩⟩
      exact ⟨.tuple #[.slice none 0 0, .bool false], by simp [results, Try.results45, go_sem], _, by rw [E.out], by rw [E.out]; exact OwnI.nil _ _, hfin.out.2⟩
    · rw [if_neg hd] at e
      have E := Lib.hid e
      have g1 : ¬ (d.length : Int) < (n : Int) := by omega
      clear hd e
      go_wp2_with fail
      refine ⟨by simp, .inl ⟨_, _, rfl, run_takeDeferred hK, ?_⟩⟩
      exact ⟨.tuple #[.slice A1 d.length d1, .bool true], by simp [results, Try.results45, go_sem], _, by rw [E.out], by rw [E.out]; exact hfin.out.1, hfin.out.2⟩

theorem order_Order {A : Option Addr} {n : Nat} {l : List PO.Mem} (c : Nat) (free : Int) {w : World} (h : MemAt w A n l) (hn : n ≤ 1000) :
    Calls Try.prog 45 #[.int .i64 free, .slice A n c] w fun e w' => ∃ v, e = .returned (.tuple #[v, .bool (PO.order free l).2]) ∧ OwnI w.heap.size w' v (PO.ints (PO.order free l).1) ∧ Below w.heap.size w w' := by
  cases hm : PO.may free l
  · have K1 := order_may c free h
    rw [hm] at K1
    have e : PO.order free l = ([], false) := by unfold PO.order; rw [if_pos hm]
    rw [e]
    replace K1 := Lib.hid K1
    clear hm e h
    go_enter Try.func45, Try.ntmps45
    go_wp2_with fail
    refine K1.out.mono ?_
    rintro e w1 ⟨rfl, h1⟩
    go_wp2_with fail
    exact bodyPost_ret (v := .tuple #[.slice none 0 0, .bool false]) (by simp [results, Try.results45, go_sem]) rfl ⟨_, rfl, OwnI.nil _ _, (by repeat (first | exact Below.refl _ _ | assumption | refine bel_drew ?_ | refine bel_drewN ?_ _ | refine bel_alloc ?_ _ | refine bel_set ?_ (by first | (dsimp only; omega) | (simp; done) | (simp; omega)) _ | refine bel_trans ?_ (by assumption)))⟩
  · exact order_Order_yes c free h hn hm

theorem order_Safe {A : Option Addr} {n : Nat} {l : List PO.Mem} (c : Nat) (free : Int) {w : World} (h : MemAt w A n l) (hn : n ≤ 1000) :
    Calls Try.prog 42 #[.int .i64 free, .slice A n c] w fun e w' => e = .returned (.bool (PO.safe free l)) ∧ Below w.heap.size w w' := by
  have K := order_Order c free h hn
  show Calls Try.prog 42 #[.int .i64 free, .slice A n c] w fun e w' => e = .returned (.bool (PO.order free l).2) ∧ Below w.heap.size w w'
  generalize PO.order free l = R at *
  obtain ⟨d, q⟩ := R
  replace K := Lib.hid K
  clear h
  go_enter Try.func42, Try.ntmps42
  go_wp2_with fail
  refine K.out.mono ?_
  rintro e w1 ⟨v, rfl, ho, h1⟩
  obtain ⟨A1, c1, rfl, _⟩ := ho.slice
  clear ho
  go_wp2_with fail
  exact bodyPost_ret (v := .bool q) (by simp [results, Try.results42, go_sem]) rfl ⟨rfl, (by repeat (first | exact Below.refl _ _ | assumption | refine bel_drew ?_ | refine bel_drewN ?_ _ | refine bel_alloc ?_ _ | refine bel_set ?_ (by first | (dsimp only; omega) | (simp; done) | (simp; omega)) _ | refine bel_trans ?_ (by assumption)))⟩
end Go.Proofs.Ythmjbfocpdiikaa
/-
  Plain: the bank.
-/
namespace Go.Proofs.Ythmjbfocpdiikaa
set_option linter.unusedVariables false
namespace PO
def bad (f w : Int) : Bool := decide (f < 0) || decide (w < 0) || decide (1048576 < f) || decide (1048576 - f < w)
theorem bad_iff {f w : Int} : bad f w = false ↔ 0 ≤ f ∧ 0 ≤ w ∧ f ≤ 1048576 ∧ f + w ≤ 1048576 := by
  simp only [bad, Bool.or_eq_false_iff, decide_eq_false_iff_not]
  omega
def bsafe (f w : Int) (l : List Mem) : Bool := if bad f w = true then false else safe (f + w) l
def grant (m : Mem) (n : Int) : (Int × Int × Int) × Int := PA.doo 2 m.2.1 m.2.2.1 m.2.2.2 n
def after (l : List Mem) (at' n : Int) : List Mem × Bool :=
  if at' < 0 ∨ (l.length : Int) ≤ at' then ([], false)
  else if (grant (l.getD at'.toNat m0) n).2 ≠ 0 then ([], false)
  else (l.set at'.toNat ((l.getD at'.toNat m0).1, (grant (l.getD at'.toNat m0) n).1), true)
def bmay (f w : Int) (l : List Mem) (at' n : Int) : Bool :=
  if bad f w = true ∨ f < n then false else (after l at' n).2 && bsafe (f - n) w (after l at' n).1
end PO
end Go.Proofs.Ythmjbfocpdiikaa
/-
  bank.both, Safe, Admit, and the reference's Safe.
-/
namespace Go.Proofs.Ythmjbfocpdiikaa
open Go.RowKit
set_option linter.unusedVariables false
set_option linter.unusedSimpArgs false
attribute [local go_sem] drewN_alloc drewN_setCell

theorem bank_both (f w : Int) (W : World) (bf : -9223372036854775808 ≤ f ∧ f ≤ 9223372036854775807) (bw : -9223372036854775808 ≤ w ∧ w ≤ 9223372036854775807) :
    Calls Try.prog 58 #[.int .i64 f, .int .i64 w] W fun e W' => e = .returned (.tuple #[.int .i64 (if PO.bad f w = true then 0 else f + w), .bool (!(PO.bad f w))]) ∧ W = W' := by
  by_cases h0 : f < 0
  · have e : PO.bad f w = true := by simp [PO.bad, h0]
    rw [e]
    go_enter Try.func58, Try.ntmps58
    go_wp2_with fail
    exact bodyPost_ret (v := .tuple #[.int .i64 0, .bool false]) (by simp [results, Try.results58, go_sem]) rfl ⟨rfl, rfl⟩
  · by_cases h1 : w < 0
    · have e : PO.bad f w = true := by simp [PO.bad, h1]
      rw [e]
      go_enter Try.func58, Try.ntmps58
      go_wp2_with fail
      exact bodyPost_ret (v := .tuple #[.int .i64 0, .bool false]) (by simp [results, Try.results58, go_sem]) rfl ⟨rfl, rfl⟩
    · by_cases h2 : 1048576 < f
      · have e : PO.bad f w = true := by simp [PO.bad, h2]
        rw [e]
        go_enter Try.func58, Try.ntmps58
        go_wp2_with fail
        exact bodyPost_ret (v := .tuple #[.int .i64 0, .bool false]) (by simp [results, Try.results58, go_sem]) rfl ⟨rfl, rfl⟩
      · by_cases h3 : 1048576 - f < w
        · have e : PO.bad f w = true := by simp [PO.bad, h3]
          rw [e]
          go_enter Try.func58, Try.ntmps58
          go_wp2_with fail
          exact bodyPost_ret (v := .tuple #[.int .i64 0, .bool false]) (by simp [results, Try.results58, go_sem]) rfl ⟨rfl, rfl⟩
        · have e : PO.bad f w = false := by rw [PO.bad_iff]; omega
          rw [e]
          go_enter Try.func58, Try.ntmps58
          go_wp2_with fail
          exact bodyPost_ret (v := .tuple #[.int .i64 (f + w), .bool true]) (by simp [results, Try.results58, go_sem]) rfl ⟨rfl, rfl⟩

theorem bank_Safe {A : Option Addr} {n : Nat} {l : List PO.Mem} (c : Nat) (f w : Int) {W : World} (h : MemAt W A n l) (hn : n ≤ 1000) (bf : -9223372036854775808 ≤ f ∧ f ≤ 9223372036854775807) (bw : -9223372036854775808 ≤ w ∧ w ≤ 9223372036854775807) :
    Calls Try.prog 17 #[.int .i64 f, .int .i64 w, .slice A n c] W fun e W' => e = .returned (.bool (PO.bsafe f w l)) ∧ Below W.heap.size W W' := by
  have K1 := bank_both f w W bf bw
  have K2 : PO.bad f w = false → ∀ X, Below W.heap.size W X → Calls Try.prog 42 #[.int .i64 (f + w), .slice A n c] X fun e W' => e = .returned (.bool (PO.safe (f + w) l)) ∧ Below X.heap.size X W' := fun _ X hX => order_Safe c (f + w) (h.keep hX) hn
  have e : PO.bsafe f w l = (if PO.bad f w = true then false else PO.safe (f + w) l) := rfl
  generalize PO.bsafe f w l = R at *
  generalize PO.safe (f + w) l = S at *
  clear h
  cases hb : PO.bad f w
  · rw [hb] at K1 e K2
    rw [if_neg (by simp)] at e K1
    subst e
    replace K1 := Lib.hid K1
    have K3 := Lib.hid (K2 rfl)
    clear K2 hb
    generalize f + w = fw at *
    go_enter Try.func17, Try.ntmps17
    go_wp2_with fail
    refine K1.out.mono ?_
    rintro e w1 ⟨rfl, rfl⟩
    go_wp2_with fail
    refine (K3.out _ (by exact (by repeat (first | exact Below.refl _ _ | assumption | refine bel_drew ?_ | refine bel_drewN ?_ _ | refine bel_alloc ?_ _ | refine bel_set ?_ (by first | (dsimp only; omega) | (simp; done) | (simp; omega)) _ | refine bel_trans ?_ (by assumption))))).mono ?_
    rintro e w2 ⟨rfl, h2⟩
    go_wp2_with fail
    exact bodyPost_ret (v := .bool R) (by simp [results, Try.results17, go_sem]) rfl ⟨rfl, (by repeat (first | exact Below.refl _ _ | assumption | refine bel_drew ?_ | refine bel_drewN ?_ _ | refine bel_alloc ?_ _ | refine bel_set ?_ (by first | (dsimp only; omega) | (simp; done) | (simp; omega)) _ | refine bel_trans ?_ (by assumption)))⟩
  · rw [hb] at K1 e
    rw [if_pos rfl] at e K1
    subst e
    replace K1 := Lib.hid K1
    clear K2 hb
    go_enter Try.func17, Try.ntmps17
    go_wp2_with fail
    refine K1.out.mono ?_
    rintro e w1 ⟨rfl, rfl⟩
    go_wp2_with fail
    exact bodyPost_ret (v := .bool false) (by simp [results, Try.results17, go_sem]) rfl ⟨rfl, (by repeat (first | exact Below.refl _ _ | assumption | refine bel_drew ?_ | refine bel_drewN ?_ _ | refine bel_alloc ?_ _ | refine bel_set ?_ (by first | (dsimp only; omega) | (simp; done) | (simp; omega)) _ | refine bel_trans ?_ (by assumption)))⟩

theorem bank_Admit (k x : Int) (W : World) :
    Calls Try.prog 19 #[.int .i64 k, .int .i64 x] W fun e W' => e = .returned (.bool (decide (1 ≤ x) && decide (x ≤ k) && decide (k ≤ 1048576))) ∧ W = W' := by
  by_cases h0 : 1 ≤ x
  · have g0 : decide ((1 : Int) ≤ x) = true := decide_eq_true h0
    by_cases h1 : x ≤ k
    · have g1 : decide (x ≤ k) = true := decide_eq_true h1
      rw [g0, g1, Bool.true_and, Bool.true_and]
      go_enter Try.func19, Try.ntmps19
      go_wp2_with fail
      exact bodyPost_ret (v := .bool (decide (k ≤ 1048576))) (by simp [results, Try.results19, go_sem]) rfl ⟨rfl, rfl⟩
    · have g1 : decide (x ≤ k) = false := decide_eq_false h1
      rw [g0, g1, Bool.and_false, Bool.false_and]
      go_enter Try.func19, Try.ntmps19
      go_wp2_with fail
      exact bodyPost_ret (v := .bool false) (by simp [results, Try.results19, go_sem]) rfl ⟨rfl, rfl⟩
  · have g0 : decide ((1 : Int) ≤ x) = false := decide_eq_false h0
    rw [g0, Bool.false_and, Bool.false_and]
    go_enter Try.func19, Try.ntmps19
    go_wp2_with fail
    exact bodyPost_ret (v := .bool false) (by simp [results, Try.results19, go_sem]) rfl ⟨rfl, rfl⟩

theorem ref29_Safe {A : Option Addr} {n : Nat} {l : List PO.Mem} (c : Nat) (f w : Int) {W : World} (h : MemAt W A n l) (hn : n ≤ 1000) (bf : -9223372036854775808 ≤ f ∧ f ≤ 9223372036854775807) (bw : -9223372036854775808 ≤ w ∧ w ≤ 9223372036854775807) :
    Calls Try.prog 18 #[.int .i64 f, .int .i64 w, .slice A n c] W fun e W' => e = .returned (.bool (PO.bsafe f w l)) ∧ Below W.heap.size W W' := by
  have K2 : ∀ X, Below W.heap.size W X → Calls Try.prog 37 #[.int .i64 (f + w), .slice A n c] X fun e w' => ∃ v, e = .returned (.tuple #[v, .bool (PO.safe (f + w) l)]) ∧ OwnI X.heap.size w' v (PO.ints (PO.order (f + w) l).1) ∧ Below X.heap.size X w' := fun X hX => ref28_Order c (f + w) (h.keep hX) hn
  have e : PO.bsafe f w l = (if PO.bad f w = true then false else PO.safe (f + w) l) := rfl
  generalize PO.bsafe f w l = R at *
  generalize PO.safe (f + w) l = S at *
  generalize (PO.order (f + w) l).1 = d at *
  replace K2 := Lib.hid K2
  clear h
  by_cases h0 : f < 0
  · rw [if_pos (show PO.bad f w = true by simp [PO.bad, h0])] at e
    subst e
    go_enter Try.func18, Try.ntmps18
    go_wp2_with fail
    exact bodyPost_ret (v := .bool false) (by simp [results, Try.results18, go_sem]) rfl ⟨rfl, (by repeat (first | exact Below.refl _ _ | assumption | refine bel_drew ?_ | refine bel_drewN ?_ _ | refine bel_alloc ?_ _ | refine bel_set ?_ (by first | (dsimp only; omega) | (simp; done) | (simp; omega)) _ | refine bel_trans ?_ (by assumption)))⟩
  · by_cases h1 : w < 0
    · rw [if_pos (show PO.bad f w = true by simp [PO.bad, h1])] at e
      subst e
      go_enter Try.func18, Try.ntmps18
      go_wp2_with fail
      exact bodyPost_ret (v := .bool false) (by simp [results, Try.results18, go_sem]) rfl ⟨rfl, (by repeat (first | exact Below.refl _ _ | assumption | refine bel_drew ?_ | refine bel_drewN ?_ _ | refine bel_alloc ?_ _ | refine bel_set ?_ (by first | (dsimp only; omega) | (simp; done) | (simp; omega)) _ | refine bel_trans ?_ (by assumption)))⟩
    · by_cases h2 : 1048576 < f
      · rw [if_pos (show PO.bad f w = true by simp [PO.bad, h2])] at e
        subst e
        go_enter Try.func18, Try.ntmps18
        go_wp2_with fail
        exact bodyPost_ret (v := .bool false) (by simp [results, Try.results18, go_sem]) rfl ⟨rfl, (by repeat (first | exact Below.refl _ _ | assumption | refine bel_drew ?_ | refine bel_drewN ?_ _ | refine bel_alloc ?_ _ | refine bel_set ?_ (by first | (dsimp only; omega) | (simp; done) | (simp; omega)) _ | refine bel_trans ?_ (by assumption)))⟩
      · by_cases h3 : 1048576 - f < w
        · rw [if_pos (show PO.bad f w = true by simp [PO.bad, h3])] at e
          subst e
          go_enter Try.func18, Try.ntmps18
          go_wp2_with fail
          exact bodyPost_ret (v := .bool false) (by simp [results, Try.results18, go_sem]) rfl ⟨rfl, (by repeat (first | exact Below.refl _ _ | assumption | refine bel_drew ?_ | refine bel_drewN ?_ _ | refine bel_alloc ?_ _ | refine bel_set ?_ (by first | (dsimp only; omega) | (simp; done) | (simp; omega)) _ | refine bel_trans ?_ (by assumption)))⟩
        · rw [if_neg (by rw [show PO.bad f w = false by rw [PO.bad_iff]; omega]; simp)] at e
          subst e
          go_enter Try.func18, Try.ntmps18
          go_wp2_with fail
          refine (K2.out _ (by exact (by repeat (first | exact Below.refl _ _ | assumption | refine bel_drew ?_ | refine bel_drewN ?_ _ | refine bel_alloc ?_ _ | refine bel_set ?_ (by first | (dsimp only; omega) | (simp; done) | (simp; omega)) _ | refine bel_trans ?_ (by assumption))))).mono ?_
          rintro e w2 ⟨v, rfl, ho, hb2⟩
          obtain ⟨A1, c1, rfl, _⟩ := ho.slice
          clear ho
          go_wp2_with fail
          exact bodyPost_ret (v := .bool R) (by simp [results, Try.results18, go_sem]) rfl ⟨rfl, (by repeat (first | exact Below.refl _ _ | assumption | refine bel_drew ?_ | refine bel_drewN ?_ _ | refine bel_alloc ?_ _ | refine bel_set ?_ (by first | (dsimp only; omega) | (simp; done) | (simp; omega)) _ | refine bel_trans ?_ (by assumption)))⟩
end Go.Proofs.Ythmjbfocpdiikaa
/-
  Members of the call's own: make, copy; bank.After.
-/
namespace Go.Proofs.Ythmjbfocpdiikaa
open Go.RowKit
set_option linter.unusedVariables false
set_option linter.unusedSimpArgs false
attribute [local go_sem] drewN_alloc drewN_setCell

def comp (r : Nat) (m : PO.Mem) : Value := match r with
  | 0 => .int .i64 m.1
  | 1 => .int .i64 m.2.1
  | 2 => .int .i64 m.2.2.1
  | _ => .int .i64 m.2.2.2
/-- The cells of members, one behind the other. -/
def cellsM (l : List PO.Mem) : List Value := (List.range (l.length * 4)).map (fun j => comp (j % 4) (l.getD (j / 4) PO.m0))
theorem cellsM_len (l : List PO.Mem) : (cellsM l).length = l.length * 4 := by simp [cellsM]
theorem cellsM_at (l : List PO.Mem) {j : Nat} (h : j < l.length * 4) : (cellsM l)[j]? = some (comp (j % 4) (l.getD (j / 4) PO.m0)) := by
  unfold cellsM
  rw [List.getElem?_map, List.getElem?_range h]
  rfl
theorem cellsM_one (l : List PO.Mem) : ∀ u ∈ cellsM l, u.oneCell' = true := by
  intro u hu
  obtain ⟨j, _, rfl⟩ := List.mem_map.1 hu
  unfold comp
  split <;> simp [Value.oneCell']
theorem MemCells.comp {w : World} {b off : Nat} {m : PO.Mem} (h : MemCells w b off m) {r : Nat} (hr : r < 4) : w.cell? ⟨b, off + r, none⟩ = some (comp r m) := by
  have : r = 0 ∨ r = 1 ∨ r = 2 ∨ r = 3 := by omega
  rcases this with rfl | rfl | rfl | rfl
  · exact h.1
  · exact h.2.1
  · exact h.2.2.1
  · exact h.2.2.2
theorem MemAt.cellsM {w : World} {b off n : Nat} {l : List PO.Mem} (h : MemAt w (some ⟨b, off, none⟩) n l) (h0 : 0 < n) : ∀ j v, (cellsM l)[j]? = some v → w.cell? ((⟨b, off, none⟩ : Addr).add j) = some v := by
  obtain ⟨b', off', e, hb, hc⟩ := h.2.2.2 h0
  obtain ⟨rfl, rfl⟩ : b = b' ∧ off = off' := by simpa using e
  intro j v hv
  have hj : j < l.length * 4 := by
    rcases Nat.lt_or_ge j (l.length * 4) with h1 | h1
    · exact h1
    · rw [List.getElem?_eq_none (by rw [cellsM_len]; exact h1)] at hv; cases hv
  rw [cellsM_at l hj] at hv
  cases hv
  rw [addr_addS]
  have := (hc (j / 4) (by have := h.1; omega)).comp (r := j % 4) (by omega)
  rw [show off + j / 4 * 4 + j % 4 = off + j by omega] at this
  exact this
/-- A row of members. -/
theorem mem_of_row {w : World} {g : Nat} {l : List PO.Mem} (hg : w.heap[g]? = some (.cells (cellsM l).toArray 34 (0, 0))) (hn : l.length ≤ 100000) (hb : ∀ m ∈ l, MemBd m) : MemAt w (some ⟨g, 0, none⟩) l.length l := by
  refine ⟨rfl, by omega, hb, fun h0 => ⟨g, 0, rfl, (Array.getElem?_eq_some_iff.1 hg).1, fun i hi => ?_⟩⟩
  have key : ∀ r, r < 4 → w.cell? ⟨g, 0 + i * 4 + r, none⟩ = some (comp r (l.getD i PO.m0)) := fun r hr => by
    have h1 := cellsM_at l (j := 0 + i * 4 + r) (by omega)
    rw [show (0 + i * 4 + r) % 4 = r by omega, show (0 + i * 4 + r) / 4 = i by omega] at h1
    simp only [World.cell?, hg]
    simpa using h1
  exact ⟨key 0 (by omega), key 1 (by omega), key 2 (by omega), key 3 (by omega)⟩
theorem run_copy_rowS {P : Program} (w : World) (sz : Nat) (dT sT ty elem : TypeId) (g dLen dCap : Nat) (a : Addr) (sLen sCap : Nat) (cur : Array Value) (t : TypeId) (cs : List Value)
    (hu : P.underlying dT = some (.slice elem)) (hs : (P.info? elem).map (·.size) = some sz)
    (hg : w.heap[g]? = some (.cells cur t (0, 0))) (hn : cs.length = Nat.min sLen dLen * sz)
    (hsrc : ∀ j v, cs[j]? = some v → w.cell? (a.add j) = some v) (hfit : cs.length ≤ cur.size) (h1 : ∀ v ∈ cs, v.oneCell' = true) :
    (Builtin.copy_ #[dT, sT] ty #[.slice (some ⟨g, 0, none⟩) dLen dCap, .slice (some a) sLen sCap]).run P w =
      .ok (goInt (Nat.min sLen dLen)) (w.setRow g (cs ++ cur.toList.drop cs.length).toArray) := by
  have hl := run_loadCells_list (P := P) w a cs hsrc
  have hst := run_storeCells_at P g 0 t cs 0 cur w hg (by simpa using hfit) h1
  cases hq : P.info? elem with
  | none => simp [hq] at hs
  | some i =>
    have hi : i.size = sz := by simpa [hq] using hs
    have hst2 : (storeCells ⟨g, 0, none⟩ cs).run P w = .ok () (w.setRow g (cs ++ cur.toList.drop cs.length).toArray) := by simpa using hst
    simp [Builtin.copy_, run_underlying hu, Builtin.lenOf, Builtin.firstCells, sizeOf, typeInfo, hq, hi, ← hn, hl, hst2]
theorem heap_lastAt (w : World) (o : Obj) (k : Nat) (hk : w.heap.size = k) : (w.alloc o).heap[k]? = some o := by subst hk; exact World.alloc_heap_new w o
theorem sizeM : (Try.prog.info? 34).map (·.size) = some 4 := by kernel_rfl
theorem copy_mem {w : World} {A : Option Addr} {g n c : Nat} {l : List PO.Mem} (Z : Array Value) (hg : w.heap[g]? = some (.cells Z 34 (0, 0))) (hZ : Z.size = n * 4) (h : MemAt w A n l) (h0 : 0 < n) (ty : TypeId) :
    ∃ w', (Builtin.copy_ #[23, 23] ty #[.slice (some ⟨g, 0, none⟩) n n, .slice A n c]).run Try.prog w = .ok (goInt n) w' ∧ w'.heap[g]? = some (.cells (cellsM l).toArray 34 (0, 0)) ∧ Below g w w' := by
  obtain ⟨b, off, rfl, hb, _⟩ := h.2.2.2 h0
  have hl : (cellsM l).length = n * 4 := by rw [cellsM_len, h.1]
  have hr := run_copy_rowS (P := Try.prog) w 4 23 23 ty 34 g n n ⟨b, off, none⟩ n c Z 34 (cellsM l) Try.underlying23 sizeM hg (by rw [hl]; congr 1; exact (Nat.min_self n).symm) (h.cellsM h0) (by omega) (cellsM_one l)
  have hm : Nat.min n n = n := Nat.min_self n
  rw [hm] at hr
  refine ⟨_, hr, ?_, below_setRow (Below.refl _ _) (Nat.le_refl _) _⟩
  rw [setRow_heap w g _ _ 34 _ hg, hl, List.drop_eq_nil_of_le (by simp [hZ]), List.append_nil]
theorem run_make_mem (n : Nat) (hn : n ≤ 100000) : ∃ Z : Array Value, Z.size = n * 4 ∧ ∀ w : World, (Instr.makeSlice 23 (.int .i64 (n : Int)) (.int .i64 (n : Int))).run Try.prog w = .ok (.slice (some ⟨w.heap.size, 0, none⟩) n n) (w.alloc (.cells Z 34)) := by
  have hinfo : (Try.prog.info? 34).map (fun i => (i.zero.isSome, i.size, i.bytes)) = some (true, 4, 32) := by kernel_rfl
  obtain ⟨i, hi, hzz⟩ := Option.map_eq_some_iff.1 hinfo
  simp only [Prod.mk.injEq] at hzz
  obtain ⟨hz, hs, hb⟩ := hzz
  obtain ⟨z, hz⟩ := Option.isSome_iff_exists.1 hz
  refine ⟨madeCells z.cells (n * 4), size_madeCells _ _, fun w => ?_⟩
  have hr := run_make (P := Try.prog) w 23 34 i z Try.underlying23 hi hz .i64 .i64 n n (by omega) (Int.le_refl _) (by rw [hb]; omega) (by omega)
  simp only [Int.toNat_natCast, hs] at hr
  exact hr
theorem doo_bd {c h r n : Int} (hz : (PA.doo 2 c h r n).2 = 0) : Bd (PA.doo 2 c h r n).1.1 ∧ Bd (PA.doo 2 c h r n).1.2.1 ∧ Bd (PA.doo 2 c h r n).1.2.2 := by
  cases hr : PA.right c h r
  · rw [PA.doo_arg (.inl hr)] at hz; simp at hz
  · by_cases h1 : n < 1
    · rw [PA.doo_arg (.inr h1)] at hz; simp at hz
    · by_cases h2 : r < n
      · rw [PA.doo2_no hr (by omega) h2] at hz; simp at hz
      · rw [PA.doo2_yes hr (by omega) (by omega)]
        have := (PA.right_iff _ _ _).1 hr
        refine ⟨⟨?_, ?_⟩, ⟨?_, ?_⟩, ?_, ?_⟩ <;> dsimp only <;> omega
/-- What After hands back. -/
def GivesMem (w : World) (r : List PO.Mem × Bool) (e : Ending) (w' : World) : Prop :=
  ∃ A n c, e = .returned (.tuple #[.slice A n c, .bool r.2]) ∧ MemAt w' A n r.1 ∧ Below w.heap.size w w'
theorem set_getD_ne (l : List PO.Mem) (v : PO.Mem) {i j : Nat} (h : i ≠ j) : (l.set i v).getD j PO.m0 = l.getD j PO.m0 := by
  simp only [List.getD]
  rw [List.getElem?_set_ne h]
theorem set_getD_same (l : List PO.Mem) (v : PO.Mem) {i : Nat} (h : i < l.length) : (l.set i v).getD i PO.m0 = v := by
  simp only [List.getD]
  rw [List.getElem?_set_self h]
  rfl
theorem MemAt.set3 {w : World} {g n i : Nat} {l : List PO.Mem} (h : MemAt w (some ⟨g, 0, none⟩) n l) (hi : i < n) (c h' r : Int) (hb : Bd c ∧ Bd h' ∧ Bd r) :
    MemAt (((w.setCell ⟨g, i * 4 + 1, none⟩ (.int .i64 c)).setCell ⟨g, i * 4 + 2, none⟩ (.int .i64 h')).setCell ⟨g, i * 4 + 3, none⟩ (.int .i64 r)) (some ⟨g, 0, none⟩) n (l.set i ((l.getD i PO.m0).1, c, h', r)) := by
  have hl := h.1
  obtain ⟨g', o', e, hg, hc⟩ := h.2.2.2 (by omega)
  obtain ⟨rfl, rfl⟩ : g = g' ∧ 0 = o' := by simpa using e
  refine ⟨by simp [hl], h.2.1, fun m hm => ?_, fun h0 => ⟨g, 0, rfl, by simpa using hg, fun j hj => ?_⟩⟩
  · rcases List.mem_or_eq_of_mem_set hm with h1 | rfl
    · exact h.2.2.1 m h1
    · exact ⟨(h.bd hi).1, hb.1, hb.2.1, hb.2.2⟩
  · obtain ⟨y0, y1, y2, y3⟩ := hc i hi
    obtain ⟨x0, x1, x2, x3⟩ := hc j hj
    simp only [Nat.zero_add] at x0 x1 x2 x3 y0 y1 y2 y3 ⊢
    by_cases e : j = i
    · subst e
      have e2 : (l.set j ((l.getD j PO.m0).1, c, h', r)).getD j PO.m0 = ((l.getD j PO.m0).1, c, h', r) := by
        exact set_getD_same _ _ (by omega)
      rw [e2]
      refine ⟨?_, ?_, ?_, ?_⟩
      · rw [World.cell?_setCell_other _ _ _ _ (by simp), World.cell?_setCell_other _ _ _ _ (by simp), World.cell?_setCell_other _ _ _ _ (by simp)]; exact x0
      · rw [World.cell?_setCell_other _ _ _ _ (by simp), World.cell?_setCell_other _ _ _ _ (by simp)]; exact World.cell?_setCell_same _ _ _ x1
      · rw [World.cell?_setCell_other _ _ _ _ (by simp)]; exact World.cell?_setCell_same _ _ _ ((World.cell?_setCell_other _ _ _ _ (by simp)).trans x2)
      · exact World.cell?_setCell_same _ _ _ ((World.cell?_setCell_other _ _ _ _ (by simp)).trans ((World.cell?_setCell_other _ _ _ _ (by simp)).trans x3))
    · have e2 : (l.set i ((l.getD i PO.m0).1, c, h', r)).getD j PO.m0 = l.getD j PO.m0 := by
        exact set_getD_ne _ _ (fun h => e h.symm)
      rw [e2]
      refine ⟨?_, ?_, ?_, ?_⟩
      · rw [World.cell?_setCell_other _ _ _ _ (by first | (simp; done) | (simp; omega)), World.cell?_setCell_other _ _ _ _ (by first | (simp; done) | (simp; omega)), World.cell?_setCell_other _ _ _ _ (by first | (simp; done) | (simp; omega))]; exact x0
      · rw [World.cell?_setCell_other _ _ _ _ (by first | (simp; done) | (simp; omega)), World.cell?_setCell_other _ _ _ _ (by first | (simp; done) | (simp; omega)), World.cell?_setCell_other _ _ _ _ (by first | (simp; done) | (simp; omega))]; exact x1
      · rw [World.cell?_setCell_other _ _ _ _ (by first | (simp; done) | (simp; omega)), World.cell?_setCell_other _ _ _ _ (by first | (simp; done) | (simp; omega)), World.cell?_setCell_other _ _ _ _ (by first | (simp; done) | (simp; omega))]; exact x2
      · rw [World.cell?_setCell_other _ _ _ _ (by first | (simp; done) | (simp; omega)), World.cell?_setCell_other _ _ _ _ (by first | (simp; done) | (simp; omega)), World.cell?_setCell_other _ _ _ _ (by first | (simp; done) | (simp; omega))]; exact x3

set_option maxRecDepth 100000 in
set_option maxHeartbeats 8000000 in
theorem bank_After {A : Option Addr} {n : Nat} {l : List PO.Mem} (c : Nat) (at' x : Int) {w : World} (h : MemAt w A n l) (hn : n ≤ 1000) (ba : -9223372036854775808 ≤ at' ∧ at' ≤ 9223372036854775807) (bx : -9223372036854775808 ≤ x ∧ x ≤ 9223372036854775807) :
    Calls Try.prog 21 #[.slice A n c, .int .i64 at', .int .i64 x] w (GivesMem w (PO.after l at' x)) := by
  have e : PO.after l at' x = (if at' < 0 ∨ (l.length : Int) ≤ at' then ([], false) else if (PO.grant (l.getD at'.toNat PO.m0) x).2 ≠ 0 then ([], false) else (l.set at'.toNat ((l.getD at'.toNat PO.m0).1, (PO.grant (l.getD at'.toNat PO.m0) x).1), true)) := rfl
  rw [h.1] at e
  generalize PO.after l at' x = R at *
  by_cases h0 : at' < 0
  · rw [if_pos (.inl h0)] at e
    subst e
    clear h
    go_enter Try.func21, Try.ntmps21
    go_wp2_with fail
    exact bodyPost_ret (v := .tuple #[.slice none 0 0, .bool false]) (by simp [results, Try.results21, go_sem]) rfl ⟨none, 0, 0, rfl, MemAt.nil, (by repeat (first | exact Below.refl _ _ | assumption | refine bel_drew ?_ | refine bel_drewN ?_ _ | refine bel_alloc ?_ _ | refine bel_set ?_ (by first | (dsimp only; omega) | (simp; done) | (simp; omega)) _ | refine bel_trans ?_ (by assumption)))⟩
  · by_cases h1 : (n : Int) ≤ at'
    · rw [if_pos (.inr h1)] at e
      subst e
      clear h
      go_enter Try.func21, Try.ntmps21
      go_wp2_with fail
      exact bodyPost_ret (v := .tuple #[.slice none 0 0, .bool false]) (by simp [results, Try.results21, go_sem]) rfl ⟨none, 0, 0, rfl, MemAt.nil, (by repeat (first | exact Below.refl _ _ | assumption | refine bel_drew ?_ | refine bel_drewN ?_ _ | refine bel_alloc ?_ _ | refine bel_set ?_ (by first | (dsimp only; omega) | (simp; done) | (simp; omega)) _ | refine bel_trans ?_ (by assumption)))⟩
    · rw [if_neg (by omega)] at e
      obtain ⟨k, rfl⟩ : ∃ k : Nat, at' = k := ⟨at'.toNat, by omega⟩
      rw [Int.toNat_natCast] at e
      have hk : k < n := by omega
      obtain ⟨b, off, rfl, hb, hcs⟩ := h.2.2.2 (by omega)
      obtain ⟨x0, x1, x2, x3⟩ := hcs k hk
      have bd := h.bd hk
      have hset := fun (X : World) (g : Nat) (hX : MemAt X (some ⟨g, 0, none⟩) n l) (c h' r : Int) (hb : Bd c ∧ Bd h' ∧ Bd r) => hX.set3 hk c h' r hb
      obtain ⟨m, hm⟩ : ∃ m, l.getD k PO.m0 = m := ⟨_, rfl⟩
      rw [hm] at x0 x1 x2 x3 bd e
      simp only [hm] at hset
      have KG := fun W => account_Grant m.2.1 m.2.2.1 m.2.2.2 x W bd.2.1 bd.2.2.1 bd.2.2.2 bx
      have hgr : PO.grant m x = PA.doo 2 m.2.1 m.2.2.1 m.2.2.2 x := rfl
      rw [hgr] at e
      have hbd : (PA.doo 2 m.2.1 m.2.2.1 m.2.2.2 x).2 = 0 → Bd (PA.doo 2 m.2.1 m.2.2.1 m.2.2.2 x).1.1 ∧ Bd (PA.doo 2 m.2.1 m.2.2.1 m.2.2.2 x).1.2.1 ∧ Bd (PA.doo 2 m.2.1 m.2.2.1 m.2.2.2 x).1.2.2 := fun h => doo_bd h
      generalize PA.doo 2 m.2.1 m.2.2.1 m.2.2.2 x = G at *
      obtain ⟨⟨g1, g2, g3⟩, g4⟩ := G
      dsimp only at KG e hbd
      replace KG := Lib.hid KG
      have H := Lib.hid h
      have hlt : (k : Int) < (n : Int) := by omega
      have j0 : (0 : Int) ≤ (k : Int) := by omega
      clear hcs hm hgr x0 bd h
      by_cases hg : g4 = 0
      · rw [if_neg (by simp [hg])] at e
        have hbd' := hbd hg
        subst e hg
        obtain ⟨Z, hZ, hmk⟩ := run_make_mem n (by omega)
        clear hbd
        go_enter Try.func21, Try.ntmps21
        go_wp2_with fail
        refine (KG.out _).mono ?_
        rintro e w1 ⟨rfl, h1⟩
        obtain ⟨V, hV⟩ : ∃ V, (w1.alloc (.cells #[.int .i64 g1, .int .i64 g2, .int .i64 g3] 32)).alloc (.cells Z 34) = V := ⟨_, rfl⟩
        have hbV : Below w.heap.size w V := by rw [← hV]; exact (by repeat (first | exact Below.refl _ _ | assumption | refine bel_drew ?_ | refine bel_drewN ?_ _ | refine bel_alloc ?_ _ | refine bel_set ?_ (by first | (dsimp only; omega) | (simp; done) | (simp; omega)) _ | refine bel_trans ?_ (by assumption)))
        have hgV : V.heap[w1.heap.size + 1]? = some (.cells Z 34 (0, 0)) := by rw [← hV]; exact heap_lastAt _ _ _ (by simp)
        obtain ⟨V2, hcp, hg2, hb2⟩ := copy_mem (g := w1.heap.size + 1) (c := c) Z hgV hZ (H.out.keep hbV) (by omega) 3
        have hM2 : MemAt V2 (some ⟨w1.heap.size + 1, 0, none⟩) n l := by
          have := mem_of_row hg2 (by rw [H.out.1]; omega) H.out.2.2.1
          rwa [H.out.1] at this
        have a0 : V2.cell? ⟨w1.heap.size, 0, none⟩ = some (.int .i64 g1) := (hb2.cell (by dsimp only; omega)).trans (by rw [← hV]; simp [go_sem])
        have a1 : V2.cell? ⟨w1.heap.size, 1, none⟩ = some (.int .i64 g2) := (hb2.cell (by dsimp only; omega)).trans (by rw [← hV]; simp [go_sem])
        have a2 : V2.cell? ⟨w1.heap.size, 2, none⟩ = some (.int .i64 g3) := (hb2.cell (by dsimp only; omega)).trans (by rw [← hV]; simp [go_sem])
        obtain ⟨bq, oq, eq, hbq, hcq⟩ := hM2.2.2.2 (by omega)
        obtain ⟨rfl, rfl⟩ : w1.heap.size + 1 = bq ∧ 0 = oq := by simpa using eq
        obtain ⟨y0, y1, y2, y3⟩ := hcq k hk
        simp only [Nat.zero_add] at y0 y1 y2 y3
        have ff : ∀ o, V2.frozen? ⟨w1.heap.size + 1, o, none⟩ = false := fun o => by simp only [World.frozen?, hg2]; simp
        have HS := Lib.hid (hset V2 _ hM2 g1 g2 g3 hbd')
        have s1 := h1.size
        have hbF : Below w.heap.size w V2 := hbV.trans (hb2.mono (by omega))
        clear hset hbd' hg2 hM2 hcq hgV x1 x2 x3
        rw [← hV] at hcp
        have f1 := ff (k * 4 + 1)
        have f2 := ff (k * 4 + 2)
        have f3 := ff (k * 4 + 3)
        clear ff hb2 hbV hV
        go_wp2_with fail
        exact bodyPost_ret (v := .tuple #[.slice (some ⟨w1.heap.size + 1, 0, none⟩) n n, .bool true]) (by simp [results, Try.results21, go_sem]) rfl ⟨_, n, n, rfl, HS.out, ((hbF.setCell (by dsimp only; omega) _).setCell (by dsimp only; omega) _).setCell (by dsimp only; omega) _⟩
      · rw [if_pos hg] at e
        subst e
        have q1 : (g4 != 0) = true := by simpa using hg
        clear hset hbd hg
        go_enter Try.func21, Try.ntmps21
        go_wp2_with fail
        refine (KG.out _).mono ?_
        rintro e w1 ⟨rfl, h1⟩
        go_wp2_with fail
        exact bodyPost_ret (v := .tuple #[.slice none 0 0, .bool false]) (by simp [results, Try.results21, go_sem]) rfl ⟨none, 0, 0, rfl, MemAt.nil, (by repeat (first | exact Below.refl _ _ | assumption | refine bel_drew ?_ | refine bel_drewN ?_ _ | refine bel_alloc ?_ _ | refine bel_set ?_ (by first | (dsimp only; omega) | (simp; done) | (simp; omega)) _ | refine bel_trans ?_ (by assumption)))⟩
end Go.Proofs.Ythmjbfocpdiikaa
/-
  bank.May; the example of layer 29.
-/
namespace Go.Proofs.Ythmjbfocpdiikaa
open Go.RowKit
set_option linter.unusedVariables false
set_option linter.unusedSimpArgs false
attribute [local go_sem] drewN_alloc drewN_setCell

theorem after_len (l : List PO.Mem) (at' x : Int) : (PO.after l at' x).1.length ≤ l.length := by
  unfold PO.after
  split
  · simp
  · split
    · simp
    · simp

theorem after_pos {l : List PO.Mem} {at' x : Int} (h : (PO.after l at' x).2 = true) : 1 ≤ x := by
  unfold PO.after at h
  split at h
  · simp at h
  · split at h
    · simp at h
    · rename_i hz
      by_cases hx : x < 1
      · exfalso
        apply hz
        unfold PO.grant
        rw [PA.doo_arg (.inr hx)]
        simp
      · omega
set_option maxRecDepth 100000 in
theorem bank_May {A : Option Addr} {n : Nat} {l : List PO.Mem} (c : Nat) (f w at' x : Int) {W : World} (h : MemAt W A n l) (hn : n ≤ 1000) (bf : -9223372036854775808 ≤ f ∧ f ≤ 9223372036854775807) (bw : -9223372036854775808 ≤ w ∧ w ≤ 9223372036854775807) (ba : -9223372036854775808 ≤ at' ∧ at' ≤ 9223372036854775807) (bx : -9223372036854775808 ≤ x ∧ x ≤ 9223372036854775807) :
    Calls Try.prog 20 #[.int .i64 f, .int .i64 w, .slice A n c, .int .i64 at', .int .i64 x] W fun e W' => e = .returned (.bool (PO.bmay f w l at' x)) ∧ Below W.heap.size W W' := by
  have K1 := bank_both f w W bf bw
  have K2 : Hid (∀ X, Below W.heap.size W X → Calls Try.prog 21 #[.slice A n c, .int .i64 at', .int .i64 x] X (GivesMem X (PO.after l at' x))) := Lib.hid (fun X hX => bank_After c at' x (h.keep hX) hn ba bx)
  have hlen := after_len l at' x
  rw [h.1] at hlen
  have hpos := fun hq => after_pos (l := l) (at' := at') (x := x) hq
  have e : PO.bmay f w l at' x = (if PO.bad f w = true ∨ f < x then false else (PO.after l at' x).2 && PO.bsafe (f - x) w (PO.after l at' x).1) := rfl
  generalize PO.bmay f w l at' x = R at *
  generalize PO.after l at' x = G at *
  obtain ⟨l', q⟩ := G
  dsimp only at e hlen hpos
  clear h
  cases hb : PO.bad f w
  · rw [hb] at K1 e
    rw [if_neg (by simp)] at K1
    obtain ⟨b0, b1, b2, b3⟩ := PO.bad_iff.1 hb
    replace K1 := Lib.hid K1
    clear hb
    by_cases hx : f < x
    · rw [if_pos (.inr hx)] at e
      subst e
      generalize f + w = fw at *
      have g1 : decide (f < x) = true := decide_eq_true hx
      clear K2 hx
      go_enter Try.func20, Try.ntmps20
      go_wp2_with fail
      refine K1.out.mono ?_
      rintro e w1 ⟨rfl, rfl⟩
      go_wp2_with fail
      exact bodyPost_ret (v := .bool false) (by simp [results, Try.results20, go_sem]) rfl ⟨rfl, (by repeat (first | exact Below.refl _ _ | assumption | refine bel_drew ?_ | refine bel_drewN ?_ _ | refine bel_alloc ?_ _ | refine bel_set ?_ (by first | (dsimp only; omega) | (simp; done) | (simp; omega)) _ | refine bel_trans ?_ (by assumption)))⟩
    · rw [if_neg (by simp; omega)] at e
      generalize f + w = fw at *
      have g1 : decide (f < x) = false := decide_eq_false hx
      have b4 : x ≤ f := by omega
      clear hx
      rcases q with _ | _
      · rw [Bool.false_and] at e
        subst e
        go_enter Try.func20, Try.ntmps20
        go_wp2_with fail
        refine K1.out.mono ?_
        rintro e w1 ⟨rfl, rfl⟩
        go_wp2_with fail
        refine (K2.out _ (by exact (by repeat (first | exact Below.refl _ _ | assumption | refine bel_drew ?_ | refine bel_drewN ?_ _ | refine bel_alloc ?_ _ | refine bel_set ?_ (by first | (dsimp only; omega) | (simp; done) | (simp; omega)) _ | refine bel_trans ?_ (by assumption))))).mono ?_
        rintro e w2 ⟨A2, n2, c2, rfl, i2, h2⟩
        clear i2
        go_wp2_with fail
        exact bodyPost_ret (v := .bool false) (by simp [results, Try.results20, go_sem]) rfl ⟨rfl, (by repeat (first | exact Below.refl _ _ | assumption | refine bel_drew ?_ | refine bel_drewN ?_ _ | refine bel_alloc ?_ _ | refine bel_set ?_ (by first | (dsimp only; omega) | (simp; done) | (simp; omega)) _ | refine bel_trans ?_ (by assumption)))⟩
      · have hx1 := hpos rfl
        rw [Bool.true_and] at e
        have wx : IntKind.i64.wrap (f - x) = f - x := IntWalk.i64_in _ (by omega)
        have K3 : Hid (∀ X A' n' c', MemAt X A' n' l' → Calls Try.prog 17 #[.int .i64 (f - x), .int .i64 w, .slice A' n' c'] X fun e W' => e = .returned (.bool R) ∧ Below X.heap.size X W') := Lib.hid (fun X A' n' c' hM => by
          rw [e]
          exact bank_Safe c' (f - x) w hM (by have := hM.1; omega) (by omega) bw)
        clear e hpos hlen
        go_enter Try.func20, Try.ntmps20
        go_wp2_with fail
        refine K1.out.mono ?_
        rintro e w1 ⟨rfl, rfl⟩
        go_wp2_with fail
        refine (K2.out _ (by exact (by repeat (first | exact Below.refl _ _ | assumption | refine bel_drew ?_ | refine bel_drewN ?_ _ | refine bel_alloc ?_ _ | refine bel_set ?_ (by first | (dsimp only; omega) | (simp; done) | (simp; omega)) _ | refine bel_trans ?_ (by assumption))))).mono ?_
        rintro e w2 ⟨A2, n2, c2, rfl, i2, h2⟩
        have K4 := Lib.hid (K3.out _ _ _ c2 i2)
        clear i2
        go_wp2_with fail
        refine K4.out.mono ?_
        rintro e w3 ⟨rfl, h3⟩
        go_wp2_with fail
        exact bodyPost_ret (v := .bool R) (by simp [results, Try.results20, go_sem]) rfl ⟨rfl, (by repeat (first | exact Below.refl _ _ | assumption | refine bel_drew ?_ | refine bel_drewN ?_ _ | refine bel_alloc ?_ _ | refine bel_set ?_ (by first | (dsimp only; omega) | (simp; done) | (simp; omega)) _ | refine bel_trans ?_ (by assumption)))⟩
  · rw [hb] at K1 e
    rw [if_pos (.inl rfl)] at e
    rw [if_pos rfl] at K1
    subst e
    replace K1 := Lib.hid K1
    clear K2 hb
    go_enter Try.func20, Try.ntmps20
    go_wp2_with fail
    refine K1.out.mono ?_
    rintro e w1 ⟨rfl, rfl⟩
    go_wp2_with fail
    exact bodyPost_ret (v := .bool false) (by simp [results, Try.results20, go_sem]) rfl ⟨rfl, (by repeat (first | exact Below.refl _ _ | assumption | refine bel_drew ?_ | refine bel_drewN ?_ _ | refine bel_alloc ?_ _ | refine bel_set ?_ (by first | (dsimp only; omega) | (simp; done) | (simp; omega)) _ | refine bel_trans ?_ (by assumption)))⟩

def tw : List PO.Mem := [(0, 3, 1, 2), (1, 3, 2, 1)]
theorem law29_two (w : World) : Calls Try.prog 57 #[] w fun e w' => e = .returned (.slice (some ⟨w.heap.size, 0, none⟩) 2 2) ∧ MemAt w' (some ⟨w.heap.size, 0, none⟩) 2 tw ∧ Below w.heap.size w w' := by
  have hrow : ∀ W : World, MemAt (W.alloc (.cells #[.int .i64 0, .int .i64 3, .int .i64 1, .int .i64 2, .int .i64 1, .int .i64 3, .int .i64 2, .int .i64 1] 34)) (some ⟨W.heap.size, 0, none⟩) 2 tw := fun W => by
    have hg : (W.alloc (.cells #[.int .i64 0, .int .i64 3, .int .i64 1, .int .i64 2, .int .i64 1, .int .i64 3, .int .i64 2, .int .i64 1] 34)).heap[W.heap.size]? = some (.cells (cellsM tw).toArray 34 (0, 0)) := World.alloc_heap_new _ _
    exact mem_of_row hg (by simp [tw]) (fun m hm => by
      simp only [tw, List.mem_cons, List.not_mem_nil, or_false] at hm
      rcases hm with rfl | rfl <;> refine ⟨⟨?_, ?_⟩, ⟨?_, ?_⟩, ⟨?_, ?_⟩, ?_, ?_⟩ <;> dsimp only <;> omega)
  replace hrow := Lib.hid hrow
  go_enter Try.func57, Try.ntmps57
  go_wp2_with fail
  exact bodyPost_ret (v := .slice (some ⟨w.heap.size, 0, none⟩) 2 2) (by simp [results, Try.results57, go_sem]) rfl ⟨rfl, hrow.out _, (by repeat (first | exact Below.refl _ _ | assumption | refine bel_drew ?_ | refine bel_drewN ?_ _ | refine bel_alloc ?_ _ | refine bel_set ?_ (by first | (dsimp only; omega) | (simp; done) | (simp; omega)) _ | refine bel_trans ?_ (by assumption)))⟩

theorem ex_after : PO.after tw 0 2 = ([(0, 3, 3, 0), (1, 3, 2, 1)], true) := by decide +kernel
theorem ex_may1 : PO.bmay 2 1 tw 0 2 = true := by decide +kernel
theorem ex_may2 : PO.bmay 2 1 tw 0 1 = true := by decide +kernel
theorem ex_may3 : PO.bmay 2 1 tw 1 1 = true := by decide +kernel
theorem ex_may4 : PO.bmay 2 1 tw 1 2 = false := by decide +kernel
theorem ex_safe : PO.bsafe 2 1 tw = true := by decide +kernel

set_option maxRecDepth 100000 in
set_option maxHeartbeats 4000000 in
theorem law29_works (w : World) : Calls Try.prog 16 #[] w fun e w' => e = .returned (.bool true) ∧ Below w.heap.size w w' := by
  have KM : Hid (∀ (X : World) (A : Option Addr) (c : Nat) (a x : Int) (r : Bool), 0 ≤ a ∧ a ≤ 5 → 0 ≤ x ∧ x ≤ 5 → PO.bmay 2 1 tw a x = r → MemAt X A 2 tw → Calls Try.prog 20 #[.int .i64 2, .int .i64 1, .slice A 2 c, .int .i64 a, .int .i64 x] X fun e W' => e = .returned (.bool r) ∧ Below X.heap.size X W') := Lib.hid (fun X A c a x r ha hx hr hM => by
    rw [← hr]
    exact bank_May c 2 1 a x hM (by omega) (by omega) (by omega) (by omega) (by omega))
  have KA : Hid (∀ (X : World) (A : Option Addr) (c : Nat), MemAt X A 2 tw → Calls Try.prog 21 #[.slice A 2 c, .int .i64 0, .int .i64 2] X (GivesMem X ([(0, 3, 3, 0), (1, 3, 2, 1)], true))) := Lib.hid (fun X A c hM => by
    rw [← ex_after]
    exact bank_After c 0 2 hM (by omega) (by omega) (by omega))
  have KS : Hid (∀ (X : World) (A : Option Addr) (c : Nat), MemAt X A 2 tw → Calls Try.prog 17 #[.int .i64 2, .int .i64 1, .slice A 2 c] X fun e W' => e = .returned (.bool true) ∧ Below X.heap.size X W') := Lib.hid (fun X A c hM => by
    rw [← ex_safe]
    exact bank_Safe c 2 1 hM (by omega) (by omega) (by omega))
  have K5 : Hid (∀ X, Calls Try.prog 19 #[.int .i64 5, .int .i64 5] X fun e W' => e = .returned (.bool true) ∧ X = W') := Lib.hid (fun X => bank_Admit 5 5 X)
  have K6 : Hid (∀ X, Calls Try.prog 19 #[.int .i64 5, .int .i64 6] X fun e W' => e = .returned (.bool false) ∧ X = W') := Lib.hid (fun X => bank_Admit 5 6 X)
  go_enter Try.func16, Try.ntmps16
  go_wp2_with fail
  refine (law29_two _).mono ?_
  rintro e w1 ⟨rfl, i1, h1⟩
  have HT : Hid (∀ X, Below w1.heap.size w1 X → MemAt X (some ⟨w.heap.size, 0, none⟩) 2 tw) := Lib.hid (fun X hX => i1.keep hX)
  clear i1
  go_wp2_with fail
  refine (KA.out _ _ _ (HT.out _ (Below.refl _ _))).mono ?_
  rintro e w2 ⟨A2, n2, c2, rfl, i2, h2⟩
  obtain rfl : 2 = n2 := i2.1
  obtain ⟨b2, o2, rfl, hb2, hc2⟩ := i2.2.2.2 (by omega)
  have y0 := (hc2 0 (by omega)).2.2.1
  dsimp only [List.getD_cons_zero] at y0
  clear hc2 i2
  go_wp2_with fail
  refine (KM.out _ _ _ 0 2 true (by omega) (by omega) ex_may1 (HT.out _ h2)).mono ?_
  rintro e w3 ⟨rfl, h3⟩
  have b3 := bel_trans h2 h3
  go_wp2_with fail
  refine (KM.out _ _ _ 0 1 true (by omega) (by omega) ex_may2 (HT.out _ b3)).mono ?_
  rintro e w4 ⟨rfl, h4⟩
  have b4 := bel_trans b3 h4
  go_wp2_with fail
  refine (KM.out _ _ _ 1 1 true (by omega) (by omega) ex_may3 (HT.out _ b4)).mono ?_
  rintro e w5 ⟨rfl, h5⟩
  have b5 := bel_trans b4 h5
  go_wp2_with fail
  refine (KM.out _ _ _ 1 2 false (by omega) (by omega) ex_may4 (HT.out _ b5)).mono ?_
  rintro e w6 ⟨rfl, h6⟩
  have b6 := bel_trans b5 h6
  have c6 := bel_trans (bel_trans (bel_trans h3 h4) h5) h6
  have z0 := (c6.cell hb2).trans y0
  go_wp2_with fail
  refine (K5.out _).mono ?_
  rintro e w7 ⟨rfl, rfl⟩
  go_wp2_with fail
  refine (K6.out _).mono ?_
  rintro e w8 ⟨rfl, rfl⟩
  go_wp2_with fail
  refine (KS.out _ _ _ (HT.out _ b6)).mono ?_
  rintro e w9 ⟨rfl, h9⟩
  go_wp2_with fail
  exact bodyPost_ret (v := .bool true) (by simp [results, Try.results16, go_sem]) rfl ⟨rfl, bel_trans (bel_trans h1 b6) h9⟩
end Go.Proofs.Ythmjbfocpdiikaa
