/-
  Members of the call's own: make, copy; bank.After.
-/
import Derived.Test.YthmjbfocpdiikaaMemF
namespace Go.Proofs.Ythmjbfocpdiikaa
open Go.RowKit
set_option linter.unusedVariables false
set_option linter.unusedSimpArgs false
attribute [local go_sem] drewN_alloc drewN_setCell

def comp (r : Nat) (m : PO.Mem) : Value := match r with
  | 0 => .int .i64 m.1
  | 1 => .int .i64 m.2.1
  | 2 => .int .i64 m.2.2.1
  | _ => .int .i64 m.2.2.2
/-- The cells of members, one behind the other. -/
def cellsM (l : List PO.Mem) : List Value := (List.range (l.length * 4)).map (fun j => comp (j % 4) (l.getD (j / 4) PO.m0))
theorem cellsM_len (l : List PO.Mem) : (cellsM l).length = l.length * 4 := by simp [cellsM]
theorem cellsM_at (l : List PO.Mem) {j : Nat} (h : j < l.length * 4) : (cellsM l)[j]? = some (comp (j % 4) (l.getD (j / 4) PO.m0)) := by
  unfold cellsM
  rw [List.getElem?_map, List.getElem?_range h]
  rfl
theorem cellsM_one (l : List PO.Mem) : ∀ u ∈ cellsM l, u.oneCell' = true := by
  intro u hu
  obtain ⟨j, _, rfl⟩ := List.mem_map.1 hu
  unfold comp
  split <;> simp [Value.oneCell']
theorem MemCells.comp {w : World} {b off : Nat} {m : PO.Mem} (h : MemCells w b off m) {r : Nat} (hr : r < 4) : w.cell? ⟨b, off + r, none⟩ = some (comp r m) := by
  have : r = 0 ∨ r = 1 ∨ r = 2 ∨ r = 3 := by omega
  rcases this with rfl | rfl | rfl | rfl
  · exact h.1
  · exact h.2.1
  · exact h.2.2.1
  · exact h.2.2.2
theorem MemAt.cellsM {w : World} {b off n : Nat} {l : List PO.Mem} (h : MemAt w (some ⟨b, off, none⟩) n l) (h0 : 0 < n) : ∀ j v, (cellsM l)[j]? = some v → w.cell? ((⟨b, off, none⟩ : Addr).add j) = some v := by
  obtain ⟨b', off', e, hb, hc⟩ := h.2.2.2 h0
  obtain ⟨rfl, rfl⟩ : b = b' ∧ off = off' := by simpa using e
  intro j v hv
  have hj : j < l.length * 4 := by
    rcases Nat.lt_or_ge j (l.length * 4) with h1 | h1
    · exact h1
    · rw [List.getElem?_eq_none (by rw [cellsM_len]; exact h1)] at hv; cases hv
  rw [cellsM_at l hj] at hv
  cases hv
  rw [addr_addS]
  have := (hc (j / 4) (by have := h.1; omega)).comp (r := j % 4) (by omega)
  rw [show off + j / 4 * 4 + j % 4 = off + j by omega] at this
  exact this
/-- A row of members. -/
theorem mem_of_row {w : World} {g : Nat} {l : List PO.Mem} (hg : w.heap[g]? = some (.cells (cellsM l).toArray 34 (0, 0))) (hn : l.length ≤ 100000) (hb : ∀ m ∈ l, MemBd m) : MemAt w (some ⟨g, 0, none⟩) l.length l := by
  refine ⟨rfl, by omega, hb, fun h0 => ⟨g, 0, rfl, (Array.getElem?_eq_some_iff.1 hg).1, fun i hi => ?_⟩⟩
  have key : ∀ r, r < 4 → w.cell? ⟨g, 0 + i * 4 + r, none⟩ = some (comp r (l.getD i PO.m0)) := fun r hr => by
    have h1 := cellsM_at l (j := 0 + i * 4 + r) (by omega)
    rw [show (0 + i * 4 + r) % 4 = r by omega, show (0 + i * 4 + r) / 4 = i by omega] at h1
    simp only [World.cell?, hg]
    simpa using h1
  exact ⟨key 0 (by omega), key 1 (by omega), key 2 (by omega), key 3 (by omega)⟩
theorem run_copy_rowS {P : Program} (w : World) (sz : Nat) (dT sT ty elem : TypeId) (g dLen dCap : Nat) (a : Addr) (sLen sCap : Nat) (cur : Array Value) (t : TypeId) (cs : List Value)
    (hu : P.underlying dT = some (.slice elem)) (hs : (P.info? elem).map (·.size) = some sz)
    (hg : w.heap[g]? = some (.cells cur t (0, 0))) (hn : cs.length = Nat.min sLen dLen * sz)
    (hsrc : ∀ j v, cs[j]? = some v → w.cell? (a.add j) = some v) (hfit : cs.length ≤ cur.size) (h1 : ∀ v ∈ cs, v.oneCell' = true) :
    (Builtin.copy_ #[dT, sT] ty #[.slice (some ⟨g, 0, none⟩) dLen dCap, .slice (some a) sLen sCap]).run P w =
      .ok (goInt (Nat.min sLen dLen)) (w.setRow g (cs ++ cur.toList.drop cs.length).toArray) := by
  have hl := run_loadCells_list (P := P) w a cs hsrc
  have hst := run_storeCells_at P g 0 t cs 0 cur w hg (by simpa using hfit) h1
  cases hq : P.info? elem with
  | none => simp [hq] at hs
  | some i =>
    have hi : i.size = sz := by simpa [hq] using hs
    have hst2 : (storeCells ⟨g, 0, none⟩ cs).run P w = .ok () (w.setRow g (cs ++ cur.toList.drop cs.length).toArray) := by simpa using hst
    simp [Builtin.copy_, run_underlying hu, Builtin.lenOf, Builtin.firstCells, sizeOf, typeInfo, hq, hi, ← hn, hl, hst2]
theorem heap_lastAt (w : World) (o : Obj) (k : Nat) (hk : w.heap.size = k) : (w.alloc o).heap[k]? = some o := by subst hk; exact World.alloc_heap_new w o
theorem sizeM : (Try.prog.info? 34).map (·.size) = some 4 := by kernel_rfl
theorem copy_mem {w : World} {A : Option Addr} {g n c : Nat} {l : List PO.Mem} (Z : Array Value) (hg : w.heap[g]? = some (.cells Z 34 (0, 0))) (hZ : Z.size = n * 4) (h : MemAt w A n l) (h0 : 0 < n) (ty : TypeId) :
    ∃ w', (Builtin.copy_ #[23, 23] ty #[.slice (some ⟨g, 0, none⟩) n n, .slice A n c]).run Try.prog w = .ok (goInt n) w' ∧ w'.heap[g]? = some (.cells (cellsM l).toArray 34 (0, 0)) ∧ Below g w w' := by
  obtain ⟨b, off, rfl, hb, _⟩ := h.2.2.2 h0
  have hl : (cellsM l).length = n * 4 := by rw [cellsM_len, h.1]
  have hr := run_copy_rowS (P := Try.prog) w 4 23 23 ty 34 g n n ⟨b, off, none⟩ n c Z 34 (cellsM l) Try.underlying23 sizeM hg (by rw [hl]; congr 1; exact (Nat.min_self n).symm) (h.cellsM h0) (by omega) (cellsM_one l)
  have hm : Nat.min n n = n := Nat.min_self n
  rw [hm] at hr
  refine ⟨_, hr, ?_, below_setRow (Below.refl _ _) (Nat.le_refl _) _⟩
  rw [setRow_heap w g _ _ 34 _ hg, hl, List.drop_eq_nil_of_le (by simp [hZ]), List.append_nil]
theorem run_make_mem (n : Nat) (hn : n ≤ 100000) : ∃ Z : Array Value, Z.size = n * 4 ∧ ∀ w : World, (Instr.makeSlice 23 (.int .i64 (n : Int)) (.int .i64 (n : Int))).run Try.prog w = .ok (.slice (some ⟨w.heap.size, 0, none⟩) n n) (w.alloc (.cells Z 34)) := by
  have hinfo : (Try.prog.info? 34).map (fun i => (i.zero.isSome, i.size, i.bytes)) = some (true, 4, 32) := by kernel_rfl
  obtain ⟨i, hi, hzz⟩ := Option.map_eq_some_iff.1 hinfo
  simp only [Prod.mk.injEq] at hzz
  obtain ⟨hz, hs, hb⟩ := hzz
  obtain ⟨z, hz⟩ := Option.isSome_iff_exists.1 hz
  refine ⟨madeCells z.cells (n * 4), size_madeCells _ _, fun w => ?_⟩
  have hr := run_make (P := Try.prog) w 23 34 i z Try.underlying23 hi hz .i64 .i64 n n (by omega) (Int.le_refl _) (by rw [hb]; omega) (by omega)
  simp only [Int.toNat_natCast, hs] at hr
  exact hr
theorem doo_bd {c h r n : Int} (hz : (PA.doo 2 c h r n).2 = 0) : Bd (PA.doo 2 c h r n).1.1 ∧ Bd (PA.doo 2 c h r n).1.2.1 ∧ Bd (PA.doo 2 c h r n).1.2.2 := by
  cases hr : PA.right c h r
  · rw [PA.doo_arg (.inl hr)] at hz; simp at hz
  · by_cases h1 : n < 1
    · rw [PA.doo_arg (.inr h1)] at hz; simp at hz
    · by_cases h2 : r < n
      · rw [PA.doo2_no hr (by omega) h2] at hz; simp at hz
      · rw [PA.doo2_yes hr (by omega) (by omega)]
        have := (PA.right_iff _ _ _).1 hr
        refine ⟨⟨?_, ?_⟩, ⟨?_, ?_⟩, ?_, ?_⟩ <;> dsimp only <;> omega
/-- What After hands back. -/
def GivesMem (w : World) (r : List PO.Mem × Bool) (e : Ending) (w' : World) : Prop :=
  ∃ A n c, e = .returned (.tuple #[.slice A n c, .bool r.2]) ∧ MemAt w' A n r.1 ∧ Below w.heap.size w w'
theorem set_getD_ne (l : List PO.Mem) (v : PO.Mem) {i j : Nat} (h : i ≠ j) : (l.set i v).getD j PO.m0 = l.getD j PO.m0 := by
  simp only [List.getD]
  rw [List.getElem?_set_ne h]
theorem set_getD_same (l : List PO.Mem) (v : PO.Mem) {i : Nat} (h : i < l.length) : (l.set i v).getD i PO.m0 = v := by
  simp only [List.getD]
  rw [List.getElem?_set_self h]
  rfl
theorem MemAt.set3 {w : World} {g n i : Nat} {l : List PO.Mem} (h : MemAt w (some ⟨g, 0, none⟩) n l) (hi : i < n) (c h' r : Int) (hb : Bd c ∧ Bd h' ∧ Bd r) :
    MemAt (((w.setCell ⟨g, i * 4 + 1, none⟩ (.int .i64 c)).setCell ⟨g, i * 4 + 2, none⟩ (.int .i64 h')).setCell ⟨g, i * 4 + 3, none⟩ (.int .i64 r)) (some ⟨g, 0, none⟩) n (l.set i ((l.getD i PO.m0).1, c, h', r)) := by
  have hl := h.1
  obtain ⟨g', o', e, hg, hc⟩ := h.2.2.2 (by omega)
  obtain ⟨rfl, rfl⟩ : g = g' ∧ 0 = o' := by simpa using e
  refine ⟨by simp [hl], h.2.1, fun m hm => ?_, fun h0 => ⟨g, 0, rfl, by simpa using hg, fun j hj => ?_⟩⟩
  · rcases List.mem_or_eq_of_mem_set hm with h1 | rfl
    · exact h.2.2.1 m h1
    · exact ⟨(h.bd hi).1, hb.1, hb.2.1, hb.2.2⟩
  · obtain ⟨y0, y1, y2, y3⟩ := hc i hi
    obtain ⟨x0, x1, x2, x3⟩ := hc j hj
    simp only [Nat.zero_add] at x0 x1 x2 x3 y0 y1 y2 y3 ⊢
    by_cases e : j = i
    · subst e
      have e2 : (l.set j ((l.getD j PO.m0).1, c, h', r)).getD j PO.m0 = ((l.getD j PO.m0).1, c, h', r) := by
        exact set_getD_same _ _ (by omega)
      rw [e2]
      refine ⟨?_, ?_, ?_, ?_⟩
      · rw [World.cell?_setCell_other _ _ _ _ (by simp), World.cell?_setCell_other _ _ _ _ (by simp), World.cell?_setCell_other _ _ _ _ (by simp)]; exact x0
      · rw [World.cell?_setCell_other _ _ _ _ (by simp), World.cell?_setCell_other _ _ _ _ (by simp)]; exact World.cell?_setCell_same _ _ _ x1
      · rw [World.cell?_setCell_other _ _ _ _ (by simp)]; exact World.cell?_setCell_same _ _ _ ((World.cell?_setCell_other _ _ _ _ (by simp)).trans x2)
      · exact World.cell?_setCell_same _ _ _ ((World.cell?_setCell_other _ _ _ _ (by simp)).trans ((World.cell?_setCell_other _ _ _ _ (by simp)).trans x3))
    · have e2 : (l.set i ((l.getD i PO.m0).1, c, h', r)).getD j PO.m0 = l.getD j PO.m0 := by
        exact set_getD_ne _ _ (fun h => e h.symm)
      rw [e2]
      refine ⟨?_, ?_, ?_, ?_⟩
      · rw [World.cell?_setCell_other _ _ _ _ (by first | (simp; done) | (simp; omega)), World.cell?_setCell_other _ _ _ _ (by first | (simp; done) | (simp; omega)), World.cell?_setCell_other _ _ _ _ (by first | (simp; done) | (simp; omega))]; exact x0
      · rw [World.cell?_setCell_other _ _ _ _ (by first | (simp; done) | (simp; omega)), World.cell?_setCell_other _ _ _ _ (by first | (simp; done) | (simp; omega)), World.cell?_setCell_other _ _ _ _ (by first | (simp; done) | (simp; omega))]; exact x1
      · rw [World.cell?_setCell_other _ _ _ _ (by first | (simp; done) | (simp; omega)), World.cell?_setCell_other _ _ _ _ (by first | (simp; done) | (simp; omega)), World.cell?_setCell_other _ _ _ _ (by first | (simp; done) | (simp; omega))]; exact x2
      · rw [World.cell?_setCell_other _ _ _ _ (by first | (simp; done) | (simp; omega)), World.cell?_setCell_other _ _ _ _ (by first | (simp; done) | (simp; omega)), World.cell?_setCell_other _ _ _ _ (by first | (simp; done) | (simp; omega))]; exact x3

set_option maxRecDepth 100000 in
set_option maxHeartbeats 8000000 in
theorem bank_After {A : Option Addr} {n : Nat} {l : List PO.Mem} (c : Nat) (at' x : Int) {w : World} (h : MemAt w A n l) (hn : n ≤ 1000) (ba : -9223372036854775808 ≤ at' ∧ at' ≤ 9223372036854775807) (bx : -9223372036854775808 ≤ x ∧ x ≤ 9223372036854775807) :
    Calls Try.prog 21 #[.slice A n c, .int .i64 at', .int .i64 x] w (GivesMem w (PO.after l at' x)) := by
  have e : PO.after l at' x = (if at' < 0 ∨ (l.length : Int) ≤ at' then ([], false) else if (PO.grant (l.getD at'.toNat PO.m0) x).2 ≠ 0 then ([], false) else (l.set at'.toNat ((l.getD at'.toNat PO.m0).1, (PO.grant (l.getD at'.toNat PO.m0) x).1), true)) := rfl
  rw [h.1] at e
  generalize PO.after l at' x = R at *
  by_cases h0 : at' < 0
  · rw [if_pos (.inl h0)] at e
    subst e
    clear h
    go_enter Try.func21, Try.ntmps21
    go_wp2_with fail
    exact bodyPost_ret (v := .tuple #[.slice none 0 0, .bool false]) (by simp [results, Try.results21, go_sem]) rfl ⟨none, 0, 0, rfl, MemAt.nil, (by repeat (first | exact Below.refl _ _ | assumption | refine bel_drew ?_ | refine bel_drewN ?_ _ | refine bel_alloc ?_ _ | refine bel_set ?_ (by first | (dsimp only; omega) | (simp; done) | (simp; omega)) _ | refine bel_trans ?_ (by assumption)))⟩
  · by_cases h1 : (n : Int) ≤ at'
    · rw [if_pos (.inr h1)] at e
      subst e
      clear h
      go_enter Try.func21, Try.ntmps21
      go_wp2_with fail
      exact bodyPost_ret (v := .tuple #[.slice none 0 0, .bool false]) (by simp [results, Try.results21, go_sem]) rfl ⟨none, 0, 0, rfl, MemAt.nil, (by repeat (first | exact Below.refl _ _ | assumption | refine bel_drew ?_ | refine bel_drewN ?_ _ | refine bel_alloc ?_ _ | refine bel_set ?_ (by first | (dsimp only; omega) | (simp; done) | (simp; omega)) _ | refine bel_trans ?_ (by assumption)))⟩
    · rw [if_neg (by omega)] at e
      obtain ⟨k, rfl⟩ : ∃ k : Nat, at' = k := ⟨at'.toNat, by omega⟩
      rw [Int.toNat_natCast] at e
      have hk : k < n := by omega
      obtain ⟨b, off, rfl, hb, hcs⟩ := h.2.2.2 (by omega)
      obtain ⟨x0, x1, x2, x3⟩ := hcs k hk
      have bd := h.bd hk
      have hset := fun (X : World) (g : Nat) (hX : MemAt X (some ⟨g, 0, none⟩) n l) (c h' r : Int) (hb : Bd c ∧ Bd h' ∧ Bd r) => hX.set3 hk c h' r hb
      obtain ⟨m, hm⟩ : ∃ m, l.getD k PO.m0 = m := ⟨_, rfl⟩
      rw [hm] at x0 x1 x2 x3 bd e
      simp only [hm] at hset
      have KG := fun W => account_Grant m.2.1 m.2.2.1 m.2.2.2 x W bd.2.1 bd.2.2.1 bd.2.2.2 bx
      have hgr : PO.grant m x = PA.doo 2 m.2.1 m.2.2.1 m.2.2.2 x := rfl
      rw [hgr] at e
      have hbd : (PA.doo 2 m.2.1 m.2.2.1 m.2.2.2 x).2 = 0 → Bd (PA.doo 2 m.2.1 m.2.2.1 m.2.2.2 x).1.1 ∧ Bd (PA.doo 2 m.2.1 m.2.2.1 m.2.2.2 x).1.2.1 ∧ Bd (PA.doo 2 m.2.1 m.2.2.1 m.2.2.2 x).1.2.2 := fun h => doo_bd h
      generalize PA.doo 2 m.2.1 m.2.2.1 m.2.2.2 x = G at *
      obtain ⟨⟨g1, g2, g3⟩, g4⟩ := G
      dsimp only at KG e hbd
      replace KG := Lib.hid KG
      have H := Lib.hid h
      have hlt : (k : Int) < (n : Int) := by omega
      have j0 : (0 : Int) ≤ (k : Int) := by omega
      clear hcs hm hgr x0 bd h
      by_cases hg : g4 = 0
      · rw [if_neg (by simp [hg])] at e
        have hbd' := hbd hg
        subst e hg
        obtain ⟨Z, hZ, hmk⟩ := run_make_mem n (by omega)
        clear hbd
        go_enter Try.func21, Try.ntmps21
        go_wp2_with fail
        refine (KG.out _).mono ?_
        rintro e w1 ⟨rfl, h1⟩
        obtain ⟨V, hV⟩ : ∃ V, (w1.alloc (.cells #[.int .i64 g1, .int .i64 g2, .int .i64 g3] 32)).alloc (.cells Z 34) = V := ⟨_, rfl⟩
        have hbV : Below w.heap.size w V := by rw [← hV]; exact (by repeat (first | exact Below.refl _ _ | assumption | refine bel_drew ?_ | refine bel_drewN ?_ _ | refine bel_alloc ?_ _ | refine bel_set ?_ (by first | (dsimp only; omega) | (simp; done) | (simp; omega)) _ | refine bel_trans ?_ (by assumption)))
        have hgV : V.heap[w1.heap.size + 1]? = some (.cells Z 34 (0, 0)) := by rw [← hV]; exact heap_lastAt _ _ _ (by simp)
        obtain ⟨V2, hcp, hg2, hb2⟩ := copy_mem (g := w1.heap.size + 1) (c := c) Z hgV hZ (H.out.keep hbV) (by omega) 3
        have hM2 : MemAt V2 (some ⟨w1.heap.size + 1, 0, none⟩) n l := by
          have := mem_of_row hg2 (by rw [H.out.1]; omega) H.out.2.2.1
          rwa [H.out.1] at this
        have a0 : V2.cell? ⟨w1.heap.size, 0, none⟩ = some (.int .i64 g1) := (hb2.cell (by dsimp only; omega)).trans (by rw [← hV]; simp [go_sem])
        have a1 : V2.cell? ⟨w1.heap.size, 1, none⟩ = some (.int .i64 g2) := (hb2.cell (by dsimp only; omega)).trans (by rw [← hV]; simp [go_sem])
        have a2 : V2.cell? ⟨w1.heap.size, 2, none⟩ = some (.int .i64 g3) := (hb2.cell (by dsimp only; omega)).trans (by rw [← hV]; simp [go_sem])
        obtain ⟨bq, oq, eq, hbq, hcq⟩ := hM2.2.2.2 (by omega)
        obtain ⟨rfl, rfl⟩ : w1.heap.size + 1 = bq ∧ 0 = oq := by simpa using eq
        obtain ⟨y0, y1, y2, y3⟩ := hcq k hk
        simp only [Nat.zero_add] at y0 y1 y2 y3
        have ff : ∀ o, V2.frozen? ⟨w1.heap.size + 1, o, none⟩ = false := fun o => by simp only [World.frozen?, hg2]; simp
        have HS := Lib.hid (hset V2 _ hM2 g1 g2 g3 hbd')
        have s1 := h1.size
        have hbF : Below w.heap.size w V2 := hbV.trans (hb2.mono (by omega))
        clear hset hbd' hg2 hM2 hcq hgV x1 x2 x3
        rw [← hV] at hcp
        have f1 := ff (k * 4 + 1)
        have f2 := ff (k * 4 + 2)
        have f3 := ff (k * 4 + 3)
        clear ff hb2 hbV hV
        go_wp2_with fail
        exact bodyPost_ret (v := .tuple #[.slice (some ⟨w1.heap.size + 1, 0, none⟩) n n, .bool true]) (by simp [results, Try.results21, go_sem]) rfl ⟨_, n, n, rfl, HS.out, ((hbF.setCell (by dsimp only; omega) _).setCell (by dsimp only; omega) _).setCell (by dsimp only; omega) _⟩
      · rw [if_pos hg] at e
        subst e
        have q1 : (g4 != 0) = true := by simpa using hg
        clear hset hbd hg
        go_enter Try.func21, Try.ntmps21
        go_wp2_with fail
        refine (KG.out _).mono ?_
        rintro e w1 ⟨rfl, h1⟩
        go_wp2_with fail
        exact bodyPost_ret (v := .tuple #[.slice none 0 0, .bool false]) (by simp [results, Try.results21, go_sem]) rfl ⟨none, 0, 0, rfl, MemAt.nil, (by repeat (first | exact Below.refl _ _ | assumption | refine bel_drew ?_ | refine bel_drewN ?_ _ | refine bel_alloc ?_ _ | refine bel_set ?_ (by first | (dsimp only; omega) | (simp; done) | (simp; omega)) _ | refine bel_trans ?_ (by assumption)))⟩
end Go.Proofs.Ythmjbfocpdiikaa
