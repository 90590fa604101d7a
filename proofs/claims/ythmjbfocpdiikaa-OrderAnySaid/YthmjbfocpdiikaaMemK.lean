/-
  Rows of members of the call's own; the walk of BankNew.
-/
import Derived.Test.YthmjbfocpdiikaaMemJ
import Derived.Test.YthmjbfocpdiikaaPlainMem4
namespace Go.Proofs.Ythmjbfocpdiikaa
open Go.RowKit
set_option linter.unusedVariables false
set_option linter.unusedSimpArgs false
attribute [local go_sem] drewN_alloc drewN_setCell

def OwnM (B : Nat) (w : World) (v : Value) (l : List PO.Mem) : Prop := w.ownsRow B 34 4 v l.length (cellsM l)
theorem getD_appM (l m : List PO.Mem) (i : Nat) : (l ++ m).getD i PO.m0 = if i < l.length then l.getD i PO.m0 else m.getD (i - l.length) PO.m0 := by
  simp only [List.getD]
  split
  · rename_i h; rw [List.getElem?_append_left h]
  · rename_i h; rw [List.getElem?_append_right (by omega)]
theorem cellsM_append (l m : List PO.Mem) : cellsM (l ++ m) = cellsM l ++ cellsM m := by
  apply List.ext_getElem?
  intro j
  rcases Nat.lt_or_ge j (l.length * 4) with h1 | h1
  · rw [List.getElem?_append_left (by rw [cellsM_len]; exact h1), cellsM_at l h1, cellsM_at _ (by rw [List.length_append]; omega), getD_appM, if_pos (by omega)]
  · rw [List.getElem?_append_right (by rw [cellsM_len]; exact h1), cellsM_len]
    rcases Nat.lt_or_ge j ((l.length + m.length) * 4) with h2 | h2
    · rw [cellsM_at m (by omega), cellsM_at _ (by rw [List.length_append]; exact h2), getD_appM, if_neg (by omega)]
      rw [show (j - l.length * 4) % 4 = j % 4 by omega, show (j - l.length * 4) / 4 = j / 4 - l.length by omega]
    · rw [List.getElem?_eq_none (by rw [cellsM_len, List.length_append]; exact h2), List.getElem?_eq_none (by rw [cellsM_len]; omega)]
theorem OwnM.mem {B : Nat} {w : World} {v : Value} {l : List PO.Mem} (h : OwnM B w v l) (hb : ∀ m ∈ l, MemBd m) : ∃ A c, v = .slice A l.length c ∧ MemAt w A l.length l := by
  rcases h.2 with ⟨rfl, e⟩ | ⟨g, cap, cur, rfl, hg, hgg, hn, hcm, hcs, hx⟩
  · obtain rfl := List.eq_nil_of_length_eq_zero e
    exact ⟨none, 0, rfl, MemAt.nil⟩
  · refine ⟨_, _, rfl, rfl, by unfold maxLen at hcm; omega, hb, fun h0 => ⟨g, 0, rfl, (Array.getElem?_eq_some_iff.1 hgg).1, fun i hi => ?_⟩⟩
    have key : ∀ r, r < 4 → w.cell? ⟨g, 0 + i * 4 + r, none⟩ = some (comp r (l.getD i PO.m0)) := fun r hr => by
      rw [Nat.zero_add, World.ownsRow.cellAt (w := w) (base := B) (e := 34) (size := 4) h (i * 4 + r) (by omega), cellsM_at l (by omega), show (i * 4 + r) % 4 = r by omega, show (i * 4 + r) / 4 = i by omega]
    exact ⟨key 0 (by omega), key 1 (by omega), key 2 (by omega), key 3 (by omega)⟩
theorem srcM_of {w : World} {A : Option Addr} {n : Nat} {l : List PO.Mem} (h : MemAt w A n l) : SrcS 4 w A n (cellsM l) := by
  by_cases h0 : 0 < n
  · obtain ⟨b, off, rfl, _, _⟩ := h.2.2.2 h0
    refine ⟨by rw [cellsM_len, h.1], fun e => by simp at e, fun ad e j u hu => ?_⟩
    obtain rfl : (⟨b, off, none⟩ : Addr) = ad := by simpa using e
    exact h.cellsM h0 j u hu
  · obtain rfl : n = 0 := by omega
    obtain rfl := List.eq_nil_of_length_eq_zero h.1
    exact ⟨by simp [cellsM], fun _ => rfl, fun ad e j u hu => by simp [cellsM] at hu⟩
theorem infoMem : ∃ (i : TypeInfo) (z : Value), Try.prog.info? 34 = some i ∧ i.zero = some z ∧ i.size = 4 ∧ i.bytes = 32 ∧ z.cells.size = 4 := by
  have h : (Try.prog.info? 34).map (fun i => (i.zero.map (fun z => z.cells.size), i.size, i.bytes)) = some (some 4, 4, 32) := by kernel_rfl
  rcases hi : Try.prog.info? 34 with _ | i
  · rw [hi] at h; cases h
  · rw [hi] at h
    simp only [Option.map_some, Option.some.injEq, Prod.mk.injEq] at h
    obtain ⟨h1, h2, h3⟩ := h
    obtain ⟨z, hz, hzs⟩ := Option.map_eq_some_iff.1 h1
    exact ⟨i, z, rfl, hz, h2, h3, hzs⟩
theorem app_operM {o : Oper} {a : Act} {K : Act → World → Prop} {Q : Exit → Act → World → Prop} {w : World} (s x : Operand)
    (ho : o.op = .call { callee := .builtin .append, args := #[s, x], argTypes := #[23, 23] })
    (B : Nat) (v : Value) (l : List PO.Mem) (hsv : a.eval s = v) (hown : OwnM B w v l)
    (A : Option Addr) (m c : Nat) (l2 : List PO.Mem) (hx : a.eval x = .slice A m c) (hs : SrcS 4 w A m (cellsM l2)) (hlen : l.length + m ≤ 1048576) (hbase : B ≤ w.heap.size)
    (h : ∀ v' w', OwnM B w' v' (l ++ l2) → Below B w w' → K (a.put o.dst v') w') : o.wp Try.prog a w K Q := by
  obtain ⟨i, z, hi, hz, hsz, hby, hzs⟩ := infoMem
  refine wp_append_S w 4 (by decide) s x 23 ho B 34 i z 32 Try.underlying23 hi hz hsz hby hzs v l.length _ hsv hown A m c _ hx hs (cellsM_one l2) (by unfold maxLen; omega) (by omega) hbase (fun v' w' h2 h3 h4 => ?_)
  refine h v' w' ?_ ((Below.refl B w).grown h3 hbase (fun g hg => (hown.lt g hg).1))
  have hm : m = l2.length := by have := hs.1; rw [cellsM_len] at this; omega
  unfold OwnM
  rw [cellsM_append, List.length_append, ← hm]
  exact h2
theorem own_oneM (w : World) (m : PO.Mem) : OwnM w.heap.size (w.alloc (.cells #[.int .i64 m.1, .int .i64 m.2.1, .int .i64 m.2.2.1, .int .i64 m.2.2.2] 34)) (.slice (some ⟨w.heap.size, 0, none⟩) 1 1) [m] :=
  ⟨by simp [cellsM], .inr ⟨w.heap.size, 1, _, rfl, Nat.le_refl _, World.alloc_heap_new _ _, Nat.le_refl _, by unfold maxLen; omega, rfl, by simp [cellsM, comp, List.range, List.range.loop, List.getD]⟩⟩

theorem sumH_le {l : List PO.Mem} (ha : l.all PO.ok = true) : ∀ k, k ≤ l.length → 0 ≤ PO.sumH l (List.range k) ∧ PO.sumH l (List.range k) ≤ 1048576 * (k : Int)
  | 0, _ => by simp [PO.sumH]
  | k + 1, hk => by
    have ih := sumH_le ha k (by omega)
    have := PO.ok_held (PO.ok_get ha (show k < l.length by omega))
    rw [PO.all_take]
    unfold PO.held
    push_cast
    omega
theorem need_bd {m : PO.Mem} (h : PO.ok m = true) : 0 ≤ PO.need m ∧ PO.need m ≤ 1048576 := by
  have hr := (PA.right_iff _ _ _).1 h
  unfold PO.need PA.need
  rw [if_pos (show PA.right m.2.1 m.2.2.1 m.2.2.2 = true from h)]
  omega
def NewRel (V : World) (l : List PO.Mem) (fr : Int) (n : Nat) (al ls i : Value) (wr : World) : Prop :=
  ∃ (k : Nat) (s : Int), k ≤ n ∧ i = .int .i64 k ∧ al = .int .i64 (fr + PO.sumH l (List.range k)) ∧ ls = .int .i64 s ∧ ((k = 0 ∧ s = -1) ∨ (0 < k ∧ 0 ≤ s ∧ s ≤ 1048576 ∧ ∀ j, j < k → s ≤ PO.need (l.getD j PO.m0))) ∧ Below V.heap.size V wr

theorem law29_BankNew_long (A : Option Addr) (n c : Nat) (f wt cl : Int) (w : World) (hn : 16 < n) :
    Calls Try.prog 5 #[.agg #[.int .i64 f, .int .i64 wt], .slice A n c, .int .u8 cl] w fun e w' => e = .returned (.bool true) ∧ Below w.heap.size w w' := by
  have K := Lib.hid law29_works
  have hn' : decide ((16 : Int) < (n : Int)) = true := by simp; omega
  go_enter Try.func5, Try.ntmps5
  go_wp2_with fail
  refine (K.out _).mono ?_
  rintro e w1 ⟨rfl, h1⟩
  go_wp2_with fail
  exact bodyPost_ret (v := .bool true) (by simp [results, Try.results5, go_sem]) rfl ⟨rfl, (by repeat (first | exact Below.refl _ _ | assumption | refine bel_drew ?_ | refine bel_drewN ?_ _ | refine bel_alloc ?_ _ | refine bel_set ?_ (by first | (dsimp only; omega) | (simp; done) | (simp; omega)) _ | refine bel_trans ?_ (by assumption)))⟩

set_option maxRecDepth 100000 in
set_option maxHeartbeats 8000000 in
theorem law29_BankNew_some {A : Option Addr} {n : Nat} {l : List PO.Mem} (c : Nat) (f wt cl : Int) (w : World) (h : MemAt w A n l) (hn : n ≤ 16) (b0 : -9223372036854775808 ≤ f ∧ f ≤ 9223372036854775807) (b1 : -9223372036854775808 ≤ wt ∧ wt ≤ 9223372036854775807) (b2 : 0 ≤ cl ∧ cl ≤ 255) :
    Calls Try.prog 5 #[.agg #[.int .i64 f, .int .i64 wt], .slice A n c, .int .u8 cl] w fun e w' => e = .returned (.bool true) ∧ Below w.heap.size w w' := by
  obtain ⟨V, hV⟩ : ∃ V, w.alloc (.cells #[.int .i64 f, .int .i64 wt] 22) = V := ⟨_, rfl⟩
  obtain ⟨bs, hbs⟩ : ∃ bs, w.heap.size = bs := ⟨_, rfl⟩
  have hB : Below w.heap.size w V := by rw [← hV]; exact (by repeat (first | exact Below.refl _ _ | assumption | refine bel_drew ?_ | refine bel_drewN ?_ _ | refine bel_alloc ?_ _ | refine bel_set ?_ (by first | (dsimp only; omega) | (simp; done) | (simp; omega)) _ | refine bel_trans ?_ (by assumption)))
  have hS : Hid (∀ W : World, Below V.heap.size V W → W.cell? ⟨bs, 0, none⟩ = some (.int .i64 f) ∧ W.cell? ⟨bs, 1, none⟩ = some (.int .i64 wt)) := Lib.hid (fun W hW => by
    have hs : bs < V.heap.size := by rw [← hV, ← hbs]; simp
    exact ⟨(hW.cell hs).trans (by rw [← hV, ← hbs]; simp [go_sem]), (hW.cell hs).trans (by rw [← hV, ← hbs]; simp [go_sem])⟩)
  have hM := h.keep hB
  have K1 := bank_Safe c f wt hM (by omega) b0 b1
  have hn' : decide ((16 : Int) < (n : Int)) = false := by simp; omega
  have HV := Lib.hid hV
  have HBS := Lib.hid hbs
  have HB := Lib.hid hB
  cases hb : PO.bsafe f wt l
  · rw [hb] at K1
    replace K1 := Lib.hid K1
    clear h hM hV hbs hB b0 b1 b2 hb
    go_enter Try.func5, Try.ntmps5
    go_wp2_with fail
    rw [HV.out]
    refine K1.out.mono ?_
    rintro e w1 ⟨rfl, h1⟩
    go_wp2_with fail
    refine (law29_works _).mono ?_
    rintro e w2 ⟨rfl, h2⟩
    go_wp2_with fail
    exact bodyPost_ret (v := .bool true) (by simp [results, Try.results5, go_sem]) rfl ⟨rfl, bel_trans' HB.out (bel_trans h1 h2) HB.out.size⟩
  · rw [hb] at K1
    have hbs2 : PO.bad f wt = false ∧ PO.safe (f + wt) l = true := by
      unfold PO.bsafe at hb
      cases hq : PO.bad f wt
      · rw [hq, if_neg (by simp)] at hb; exact ⟨rfl, hb⟩
      · rw [hq, if_pos rfl] at hb; cases hb
    obtain ⟨hbad, hsafe⟩ := hbs2
    obtain ⟨q0, q1, q2, q3⟩ := PO.bad_iff.1 hbad
    have hmay := PO.safe_may hsafe
    have ha := (PO.may_iff.1 hmay).2.2
    have hnew : Hid (∀ x, 1 ≤ x → x ≤ 1048576 → x ≤ (f + wt) + PO.all l → PO.bsafe f wt ((63, x, 0, 0) :: l) = true) := Lib.hid (fun x h1 h2 h3 => by
      unfold PO.bsafe
      rw [hbad, if_neg (by simp)]
      exact PO.new_safe hmay hsafe h1 h2 h3)
    have hfirst : Hid (0 < n → ∃ i, i < n ∧ PO.need (l.getD i PO.m0) ≤ f + wt) := Lib.hid (fun h0 => by
      have := PO.safe_first hmay hsafe (by rw [h.1]; exact h0)
      rwa [h.1] at this)
    have HA := Lib.hid ha
    have HX := Lib.hid h.1
    have HMB := Lib.hid h.2.2.1
    have HM := Lib.hid hM
    have w0 : IntKind.i64.wrap (f + wt) = f + wt := IntWalk.i64_in _ (by omega)
    replace K1 := Lib.hid K1
    clear h hM hV hbs hB hb hbad hsafe hmay ha
    go_enter Try.func5, Try.ntmps5
    go_wp2_with fail
    rw [HV.out, HBS.out]
    refine K1.out.mono ?_
    rintro e w1 ⟨rfl, h1⟩
    obtain ⟨p0, p1⟩ := hS.out w1 h1
    go_wp2_with fail
    go_loopw [7, 8, 9] (fun al ls i wr => NewRel V l (f + wt) n al ls i wr) (fun _ _ i _ => n - (intOf i).toNat)
    case atStart => exact ⟨0, -1, Nat.zero_le _, rfl, by simp [PO.sumH], rfl, .inl ⟨rfl, rfl⟩, h1⟩
    case round =>
      obtain ⟨k, s, hk, rfl, rfl, rfl, hs, hbel⟩ := hrel
      have HS := Lib.hid hs
      have sb := sumH_le HA.out k (by rw [HX.out]; exact hk)
      have hs1 : -1 ≤ s ∧ s ≤ 1048576 := by rcases hs with ⟨_, e⟩ | ⟨_, e1, e2, _⟩ <;> omega
      have j0 : (0 : Int) ≤ (k : Int) := by omega
      by_cases hlt : (k : Int) < n
      · have hkn : k < n := by omega
        obtain ⟨b, off, rfl, hbM, hcs⟩ := HM.out.2.2.2 (by omega)
        obtain ⟨x0, x1, x2, x3⟩ := (hcs k hkn).keep hbel hbM
        have bd := HM.out.bd hkn
        have hok := PO.ok_get HA.out (show k < l.length by rw [HX.out]; exact hkn)
        have hsum := PO.all_take (l := l) k
        have hnb := need_bd hok
        have hhb := PO.ok_held hok
        unfold PO.held at hsum
        obtain ⟨m, hm⟩ : ∃ m, l.getD k PO.m0 = m := ⟨_, rfl⟩
        rw [hm] at x0 x1 x2 x3 bd hsum hnb hhb
        have KN := fun W => ref26_Need m.2.1 m.2.2.1 m.2.2.2 W bd.2.1 bd.2.2.1 bd.2.2.2
        have HNE : Hid (∀ s', s' ≤ PO.need m → (∀ j, j < k → s' ≤ PO.need (l.getD j PO.m0)) → ∀ j, j < k + 1 → s' ≤ PO.need (l.getD j PO.m0)) := Lib.hid (fun s' h1 h2 j hj => by
          rcases Nat.lt_or_ge j k with h3 | h3
          · exact h2 j h3
          · obtain rfl : j = k := by omega
            rw [hm]; exact h1)
        have hnd : PO.need m = PA.need m.2.1 m.2.2.1 m.2.2.2 := rfl
        rw [← hnd] at KN
        generalize PO.need m = nd at *
        have w1' : IntKind.i64.wrap (f + wt + PO.sumH l (List.range k) + m.2.2.1) = f + wt + PO.sumH l (List.range k) + m.2.2.1 := IntWalk.i64_in _ (by omega)
        have HSUM : Hid (f + wt + PO.sumH l (List.range k) + m.2.2.1 = f + wt + PO.sumH l (List.range (k + 1))) := Lib.hid (by rw [hsum]; omega)
        replace KN := Lib.hid KN
        generalize PO.sumH l (List.range k) = sk at *
        clear hcs hok hm hsum hnd hs bd x0 b0 b1 p0 p1
        by_cases c1 : s < 0
        · have g1 : decide (s < 0) = true := decide_eq_true c1
          go_wp2_with fail
          refine (KN.out _).mono ?_
          rintro e w2 ⟨rfl, h2⟩
          go_wp2_with fail
          go_roundw
          case rel =>
            refine ⟨k + 1, nd, by omega, by go_num, by rw [HSUM.out], rfl, .inr ⟨by omega, hnb.1, hnb.2, HNE.out nd (Int.le_refl _) (fun j hj => ?_)⟩, bel_trans hbel h2⟩
            rcases HS.out with ⟨e, _⟩ | ⟨_, e, _⟩ <;> omega
          case measure => simp [intOf]; omega
        · have g1 : decide (s < 0) = false := decide_eq_false c1
          have hk0 : 0 < k ∧ 0 ≤ s ∧ ∀ j, j < k → s ≤ PO.need (l.getD j PO.m0) := by
            rcases HS.out with ⟨_, e⟩ | ⟨e0, e1, _, e2⟩
            · omega
            · exact ⟨e0, e1, e2⟩
          replace hk0 := Lib.hid hk0
          by_cases c2 : nd < s
          · have g2 : decide (nd < s) = true := decide_eq_true c2
            go_wp2_with fail
            refine (KN.out _).mono ?_
            rintro e w2 ⟨rfl, h2⟩
            go_wp2_with fail
            go_roundw
            case rel => exact ⟨k + 1, nd, by omega, by go_num, by rw [HSUM.out], rfl, .inr ⟨by omega, hnb.1, hnb.2, HNE.out nd (Int.le_refl _) (fun j hj => by have := hk0.out.2.2 j hj; omega)⟩, bel_trans hbel h2⟩
            case measure => simp [intOf]; omega
          · have g2 : decide (nd < s) = false := decide_eq_false c2
            go_wp2_with fail
            refine (KN.out _).mono ?_
            rintro e w2 ⟨rfl, h2⟩
            go_wp2_with fail
            go_roundw
            case rel => exact ⟨k + 1, s, by omega, by go_num, by rw [HSUM.out], rfl, .inr ⟨by omega, hk0.out.2.1, by omega, HNE.out s (by omega) hk0.out.2.2⟩, bel_trans hbel h2⟩
            case measure => simp [intOf]; omega
      · obtain rfl : k = n := by omega
        have g1 : decide (f + wt < s) = false := by
          rw [decide_eq_false_iff_not]
          rcases hs with ⟨_, e⟩ | ⟨e0, _, _, e2⟩
          · omega
          · obtain ⟨i, hi, hni⟩ := hfirst.out e0
            have := e2 i hi
            omega
        have hall : PO.all l = PO.sumH l (List.range k) := by unfold PO.all; rw [HX.out]
        rw [hall] at hnew
        generalize PO.sumH l (List.range k) = sk at *
        obtain ⟨p0, p1⟩ := hS.out wr hbel
        have w1' : IntKind.i64.wrap (1 + cl) = 1 + cl := IntWalk.i64_in _ (by omega)
        obtain ⟨cc, hcc⟩ : ∃ cc, 1 + cl = cc := ⟨_, rfl⟩
        rw [hcc] at w1'
        clear hs b0 b1 hall
        by_cases c1 : f + wt + sk < cc
        · have g2 : decide (f + wt + sk < cc) = true := decide_eq_true c1
          have g3 : decide (f + wt + sk < 1 + cl) = true := by rw [hcc]; exact g2
          go_wp2_with fail
          refine (law29_works _).mono ?_
          rintro e w2 ⟨rfl, h2⟩
          go_wp2_with fail
          exact bodyPost_ret (v := .bool true) (by simp [results, Try.results5, go_sem]) rfl ⟨rfl, bel_trans' HB.out (bel_trans hbel h2) HB.out.size⟩
        · have g2 : decide (f + wt + sk < cc) = false := decide_eq_false c1
          have g3 : decide (f + wt + sk < 1 + cl) = false := by rw [hcc]; exact g2
          have hbd : ∀ m ∈ ([(63, 1 + cl, 0, 0)] ++ l : List PO.Mem), MemBd m := fun m hm => by
            rcases List.mem_append.1 hm with h | h
            · simp only [List.mem_singleton] at h
              subst h
              refine ⟨⟨?_, ?_⟩, ⟨?_, ?_⟩, ⟨?_, ?_⟩, ?_, ?_⟩ <;> dsimp only <;> omega
            · exact HMB.out m h
          have HBD := Lib.hid hbd
          have HNS := Lib.hid (hnew.out (1 + cl) (by omega) (by omega) (by omega))
          have HSRC : Hid (∀ W, Below V.heap.size V W → SrcS 4 W A k (cellsM l)) := Lib.hid (fun W hW => srcM_of (HM.out.keep hW))
          clear hbd g2 hcc w1' c1
          go_wp2_with fail
          refine wp_region_held_drew (S := (fun W : World => W.cell? ⟨bs, 0, none⟩ = some (.int .i64 f) ∧ W.cell? ⟨bs, 1, none⟩ = some (.int .i64 wt))) (by kernel_rfl) ?_ (fun hHeld => ?_)
          focus ((try dsimp only); exact hS.out _ (by repeat (first | exact Below.refl _ _ | assumption | refine bel_drew ?_ | refine bel_alloc ?_ _ | refine bel_trans ?_ (by assumption))))
          refine tk_yes 0 (v := ?_) rfl (by kernel_rfl) (by kernel_rfl) (by kernel_rfl) (fun _ _ _ h => h) (by kernel_rfl) (by assumption) ?_ ?_; rotate_left; (focus (intro w hSw; (try dsimp only at hSw); go_simp; (first | done | (with_reducible rfl)))); (try simp only [Act.put, List.setIfInBounds_toArray, List.set_cons_zero, List.set_cons_succ])
          refine tk_yes 1 (v := ?_) rfl (by kernel_rfl) (by kernel_rfl) (by kernel_rfl) (fun _ _ _ h => h) (by kernel_rfl) (by assumption) ?_ ?_; rotate_left; (focus (intro w hSw; (try dsimp only at hSw); go_simp; (first | done | (with_reducible rfl)))); (try simp only [Act.put, List.setIfInBounds_toArray, List.set_cons_zero, List.set_cons_succ])
          refine tk_yes 2 (v := ?_) rfl (by kernel_rfl) (by kernel_rfl) (by kernel_rfl) (fun _ _ _ h => h) (by kernel_rfl) (by assumption) ?_ ?_; rotate_left; (focus (intro w hSw; (try dsimp only at hSw); go_simp; (first | done | (with_reducible rfl)))); (try simp only [Act.put, List.setIfInBounds_toArray, List.set_cons_zero, List.set_cons_succ])
          refine tk_yes 3 (v := ?_) rfl (by kernel_rfl) (by kernel_rfl) (by kernel_rfl) (fun _ _ _ h => h) (by kernel_rfl) (by assumption) ?_ ?_; rotate_left; (focus (intro w hSw; (try dsimp only at hSw); go_simp; (first | done | (with_reducible rfl)))); (try simp only [Act.put, List.setIfInBounds_toArray, List.set_cons_zero, List.set_cons_succ])
          refine tk_yes 4 (v := ?_) rfl (by kernel_rfl) (by kernel_rfl) (by kernel_rfl) (fun _ _ _ h => h) (by kernel_rfl) (by assumption) ?_ ?_; rotate_left; (focus (intro w hSw; (try dsimp only at hSw); go_simp; (first | done | (with_reducible rfl)))); (try simp only [Act.put, List.setIfInBounds_toArray, List.set_cons_zero, List.set_cons_succ])
          refine tk_yes 5 (v := ?_) rfl (by kernel_rfl) (by kernel_rfl) (by kernel_rfl) (fun _ _ _ h => h) (by kernel_rfl) (by assumption) ?_ ?_; rotate_left; (focus (intro w hSw; (try dsimp only at hSw); go_simp; (first | done | (with_reducible rfl)))); (try simp only [Act.put, List.setIfInBounds_toArray, List.set_cons_zero, List.set_cons_succ])
          refine tk_yes 6 (v := ?_) rfl (by kernel_rfl) (by kernel_rfl) (by kernel_rfl) (fun _ _ _ h => h) (by kernel_rfl) (by assumption) ?_ ?_; rotate_left; (focus (intro w hSw; (try dsimp only at hSw); go_simp; (first | done | (with_reducible rfl)))); (try simp only [Act.put, List.setIfInBounds_toArray, List.set_cons_zero, List.set_cons_succ])
          refine tk_yes 8 (v := ?_) rfl (by kernel_rfl) (by kernel_rfl) (by kernel_rfl) (fun _ _ _ h => h) (by kernel_rfl) (by assumption) ?_ ?_; rotate_left; (focus (intro w hSw; (try dsimp only at hSw); go_simp; (first | done | (with_reducible rfl)))); (try simp only [Act.put, List.setIfInBounds_toArray, List.set_cons_zero, List.set_cons_succ])
          refine tk_call 7 rfl (by kernel_rfl) (by kernel_rfl) (fun KW hKW => ?_); go_simp; refine hKW.out _ _ ?_ (fun hHeld => ?_); (focus ((try dsimp only); exact hS.out _ (by repeat (first | exact Below.refl _ _ | assumption | refine bel_drew ?_ | refine bel_alloc ?_ _ | refine bel_trans ?_ (by assumption))))); clear hKW KW; (try simp only [Act.put, List.setIfInBounds_toArray, List.set_cons_zero, List.set_cons_succ])
          refine tk_call 9 rfl (by kernel_rfl) (by kernel_rfl) (fun KW hKW => ?_); refine app_operM (.tmp 79) (.tmp 80) rfl wr.heap.size _ [(63, 1 + cl, 0, 0)] rfl (own_oneM wr.drew (63, 1 + cl, 0, 0)) A k c l rfl (HSRC.out _ (bel_alloc (bel_drew hbel) _)) (by simp; omega) (by simp) ?_; intro v9 w9 ho9 hb9; obtain ⟨A9, c9, rfl, i9⟩ := OwnM.mem ho9 HBD.out; have d9 : Below V.heap.size V w9 := (bel_alloc (bel_drew hbel) (.cells #[.int .i64 63, .int .i64 (1 + cl), .int .i64 0, .int .i64 0] 34)).trans (hb9.mono hbel.size); have K9 := bank_Safe c9 f wt i9 (by have := HX.out; simp; omega) (by omega) (by omega); rw [show ([(63, 1 + cl, 0, 0)] ++ l : List PO.Mem) = (63, 1 + cl, 0, 0) :: l from rfl, HNS.out] at K9; replace K9 := Lib.hid K9; clear i9 ho9 hb9; refine hKW.out _ _ ?_ (fun hHeld => ?_); (focus ((try dsimp only); exact hS.out _ (by repeat (first | exact Below.refl _ _ | assumption | refine bel_drew ?_ | refine bel_alloc ?_ _ | refine bel_trans ?_ (by assumption))))); clear hKW KW; (try simp only [Act.put, List.setIfInBounds_toArray, List.set_cons_zero, List.set_cons_succ])
          refine tk_call 10 rfl (by kernel_rfl) (by kernel_rfl) (fun KW hKW => ?_); go_simp; go_at_call 17; refine K9.out.mono ?_; rintro e u1 ⟨rfl, d1⟩; have d10 := bel_trans d9 d1; refine hKW.out _ _ ?_ (fun hHeld => ?_); (focus ((try dsimp only); exact hS.out _ (by repeat (first | exact Below.refl _ _ | assumption | refine bel_drew ?_ | refine bel_alloc ?_ _ | refine bel_trans ?_ (by assumption))))); clear hKW KW; (try simp only [Act.put, List.setIfInBounds_toArray, List.set_cons_zero, List.set_cons_succ])
          refine tk_yes 11 (v := ?_) rfl (by kernel_rfl) (by kernel_rfl) (by kernel_rfl) (fun _ _ _ h => h) (by kernel_rfl) (by assumption) ?_ ?_; rotate_left; (focus (intro w hSw; (try dsimp only at hSw); go_simp; (first | done | (with_reducible rfl)))); (try simp only [Act.put, List.setIfInBounds_toArray, List.set_cons_zero, List.set_cons_succ])
          refine tk_call 12 rfl (by kernel_rfl) (by kernel_rfl) (fun KW hKW => ?_); go_simp; go_at_call 16; refine (law29_works _).mono ?_; rintro e u2 ⟨rfl, d2⟩; have d12 := bel_trans d10 d2; refine hKW.out _ _ ?_ (fun hHeld => ?_); (focus ((try dsimp only); exact hS.out _ (by repeat (first | exact Below.refl _ _ | assumption | refine bel_drew ?_ | refine bel_alloc ?_ _ | refine bel_trans ?_ (by assumption))))); clear hKW KW; (try simp only [Act.put, List.setIfInBounds_toArray, List.set_cons_zero, List.set_cons_succ])
          refine tk_yes 13 (v := ?_) rfl (by kernel_rfl) (by kernel_rfl) (by kernel_rfl) (fun _ _ _ h => h) (by kernel_rfl) (by assumption) ?_ ?_; rotate_left; (focus (intro w hSw; (try dsimp only at hSw); go_simp; (first | done | (with_reducible rfl)))); (try simp only [Act.put, List.setIfInBounds_toArray, List.set_cons_zero, List.set_cons_succ])
          refine tk_yes 14 (v := ?_) rfl (by kernel_rfl) (by kernel_rfl) (by kernel_rfl) (fun _ _ _ h => h) (by kernel_rfl) (by assumption) ?_ ?_; rotate_left; (focus (intro w hSw; (try dsimp only at hSw); go_simp; (first | done | (with_reducible rfl)))); (try simp only [Act.put, List.setIfInBounds_toArray, List.set_cons_zero, List.set_cons_succ])
          refine wpAnyH_done (by kernel_rfl) ?_ _
          go_wp2_with fail
          exact bodyPost_ret (v := .bool true) (by simp [results, Try.results5, go_sem]) rfl ⟨rfl, bel_trans' HB.out d12 HB.out.size⟩

theorem law29_BankNew {A : Option Addr} {n : Nat} {l : List PO.Mem} (c : Nat) (f wt cl : Int) (w : World) (h : MemAt w A n l) (b0 : -9223372036854775808 ≤ f ∧ f ≤ 9223372036854775807) (b1 : -9223372036854775808 ≤ wt ∧ wt ≤ 9223372036854775807) (b2 : 0 ≤ cl ∧ cl ≤ 255) :
    Calls Try.prog 5 #[.agg #[.int .i64 f, .int .i64 wt], .slice A n c, .int .u8 cl] w fun e w' => e = .returned (.bool true) ∧ Below w.heap.size w w' := by
  rcases Nat.lt_or_ge 16 n with hn | hn
  · exact law29_BankNew_long A n c f wt cl w hn
  · exact law29_BankNew_some c f wt cl w h hn b0 b1 b2
end Go.Proofs.Ythmjbfocpdiikaa
