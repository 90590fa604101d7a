/-
  The reference's Room.
-/
import Derived.Test.YthmjbfocpdiikaaOrdN
namespace Go.Proofs.Ythmjbfocpdiikaa
open Go.RowKit
set_option linter.unusedVariables false
set_option linter.unusedSimpArgs false
attribute [local go_sem] drewN_alloc drewN_setCell

/-- Of those among the first k that are done, what they hold. -/
def inD (D : List Nat) (k : Nat) : List Nat := (List.range k).filter (fun j => D.contains j)
theorem inD_yes {D : List Nat} {k : Nat} (h : k ∈ D) : inD D (k + 1) = inD D k ++ [k] := by
  unfold inD
  rw [List.range_succ, List.filter_append]
  simp [h]
theorem inD_no {D : List Nat} {k : Nat} (h : k ∉ D) : inD D (k + 1) = inD D k := by
  unfold inD
  rw [List.range_succ, List.filter_append]
  simp [h]
theorem inD_all {D : List Nat} {l : List PO.Mem} (hn : D.Nodup) (hl : ∀ x ∈ D, x < l.length) : PO.sumH l (inD D l.length) = PO.sumH l D := by
  refine PO.sumH_perm ((List.perm_ext_iff_of_nodup (List.nodup_range.filter _) hn).2 (fun a => ?_))
  rw [List.mem_filter, List.mem_range]
  constructor
  · rintro ⟨_, h⟩; simpa using h
  · intro h; exact ⟨hl a h, by simpa using h⟩
theorem inD_bd {D : List Nat} {l : List PO.Mem} (ha : l.all PO.ok = true) {k : Nat} (hk : k ≤ l.length) : 0 ≤ PO.sumH l (inD D k) ∧ PO.sumH l (inD D k) ≤ 1048576 * (l.length : Int) :=
  sum_bd ha (List.nodup_range.filter _) (fun x hx => by have := (List.mem_filter.1 hx).1; rw [List.mem_range] at this; omega)
def RoomOut (w : World) (f : Int) (l : List PO.Mem) (mo : Value) (wr : World) : Prop :=
  ∃ m : Int, mo = .int .i64 m ∧ 0 ≤ m ∧ f + m ≤ 1048576 ∧ (∀ m', 0 ≤ m' → (∃ p : List PO.Mem, p.Perm l ∧ PO.Runs (f + m') p) → m ≤ m') ∧ Below w.heap.size w wr
def RoomIn (X : World) (l : List PO.Mem) (g : Int) (D : List Nat) (n : Nat) (hv ls i : Value) (wr : World) : Prop :=
  ∃ (k : Nat) (L : Int), k ≤ n ∧ i = .int .i64 k ∧ hv = .int .i64 (g + PO.sumH l (inD D k)) ∧ ls = .int .i64 L ∧ ((L = -1 ∧ ∀ j, j < k → j ∈ D) ∨ (0 ≤ L ∧ L ≤ 1048576 ∧ (∃ j, j < k ∧ j ∉ D ∧ PO.need (l.getD j PO.m0) = L) ∧ ∀ j, j < k → j ∉ D → L ≤ PO.need (l.getD j PO.m0))) ∧ Below X.heap.size X wr
theorem room_full {f m : Int} {l : List PO.Mem} (hf : PO.may f l = true) (h0 : 0 ≤ m) (hm : PO.may (f + m) l = true) (hall : (PO.takenAll (f + m) l).length = l.length) (hmin : ∀ m', 0 ≤ m' → (∃ p : List PO.Mem, p.Perm l ∧ PO.Runs (f + m') p) → m ≤ m') : PO.IsRoom f l m := by
  obtain ⟨h1, h2, h3, _⟩ := PO.takenAll_spec hm
  obtain ⟨p, hp, hr⟩ := PO.all_runs h1 h2 h3 hall
  exact ⟨fun h => absurd (hf.symm.trans h) (by decide), fun _ => ⟨h0, fun m' h' => ⟨fun hle => ⟨p, hp, PO.runs_more (by omega) hr⟩, fun h => hmin m' h' h⟩⟩⟩
theorem room_next {f m L : Int} {l : List PO.Mem} (ha : l.all PO.ok = true) {D : List Nat} (hl : ∀ x ∈ D, x < l.length) (hj : ∃ j, j < l.length ∧ j ∉ D ∧ PO.need (l.getD j PO.m0) = L) (hL : ∀ j, j < l.length → j ∉ D → L ≤ PO.need (l.getD j PO.m0))
    (hmin : ∀ m', 0 ≤ m' → (∃ p : List PO.Mem, p.Perm l ∧ PO.Runs (f + m') p) → m ≤ m') : ∀ m', 0 ≤ m' → (∃ p : List PO.Mem, p.Perm l ∧ PO.Runs (f + m') p) → m + L - (f + m + PO.sumH l D) ≤ m' := by
  rintro m' h0 ⟨p, hp, hr⟩
  apply Classical.byContradiction
  intro hlt
  obtain ⟨j, hj1, hj2, hj3⟩ := hj
  have := PO.runs_stuck ha hp hr hl (Int.le_refl _) (PO.next_none (fun y hy => by
    by_cases hy2 : y ∈ D
    · exact .inl hy2
    · right
      have := hL y hy hy2
      omega)) j hj1
  exact hj2 this

set_option maxRecDepth 100000 in
set_option maxHeartbeats 16000000 in
theorem ref28_Room {A : Option Addr} {n : Nat} {l : List PO.Mem} (c : Nat) (f : Int) {w : World} (h : MemAt w A n l) (hn : n ≤ 1000) :
    Calls Try.prog 50 #[.int .i64 f, .slice A n c] w (GivesRoom w f l) := by
  have hl := h.1
  have K1 := Lib.hid (ref28_May c f h)
  cases hm : PO.may f l
  · have HG : Hid (∀ W, Below w.heap.size w W → GivesRoom w f l (.returned (.int .i64 (-1))) W) := Lib.hid (fun W hW => ⟨-1, rfl, ⟨fun _ => rfl, fun h' => absurd (hm.symm.trans h') (by decide)⟩, hW⟩)
    rw [hm] at K1
    clear h hm
    go_enter Try.func50, Try.ntmps50
    go_wp2_with fail
    refine K1.out.mono ?_
    rintro e w1 ⟨rfl, h1⟩
    go_wp2_with fail
    go_ret
    exact HG.out _ h1
  · obtain ⟨f0, f1, fa⟩ := PO.may_iff.1 hm
    have HFA := Lib.hid fa
    have K2 : Hid (∀ g W, Below w.heap.size w W → PO.may g l = true → Calls Try.prog 65 #[.int .i64 g, .slice A n c] W fun e w' => ∃ v, e = .returned v ∧ OwnI W.heap.size w' v (PO.ints (PO.takenAll g l)) ∧ Below W.heap.size W w') := Lib.hid (fun g W hW hg => ref28_Taken c g (h.keep hW) hn hg)
    have HM := Lib.hid h.2.2.2
    have HBD := Lib.hid (fun k (hk : k < n) => h.bd hk)
    have HFULL : Hid (∀ m, 0 ≤ m → PO.may (f + m) l = true → (PO.takenAll (f + m) l).length = n → (∀ m', 0 ≤ m' → (∃ p : List PO.Mem, p.Perm l ∧ PO.Runs (f + m') p) → m ≤ m') → PO.IsRoom f l m) := Lib.hid (fun m a b d e => room_full hm a b (d.trans hl.symm) e)
    rw [hm] at K1
    clear h hm fa
    go_enter Try.func50, Try.ntmps50
    go_wp2_with fail
    refine K1.out.mono ?_
    rintro e w1 ⟨rfl, h1⟩
    go_wp2_with fail
    go_loopw [5] (fun mo wr => RoomOut w f l mo wr) (fun mo _ => (1048576 - f - intOf mo).toNat)
    case atStart => exact ⟨0, rfl, Int.le_refl _, by omega, fun m' h' _ => h', h1⟩
    case round =>
      obtain ⟨mo, rfl, m0, m1, hmin, hbel⟩ := hrel
      have hmay : PO.may (f + mo) l = true := PO.may_iff.2 ⟨by omega, m1, HFA.out⟩
      have HMIN := Lib.hid hmin
      have K3 := Lib.hid (K2.out (f + mo) wr hbel hmay)
      obtain ⟨q1, q2, _, q4⟩ := PO.takenAll_spec hmay
      have HF := HFULL.out mo m0 hmay
      have HNX : Hid (∀ L, (∃ j, j < l.length ∧ j ∉ PO.takenAll (f + mo) l ∧ PO.need (l.getD j PO.m0) = L) → (∀ j, j < l.length → j ∉ PO.takenAll (f + mo) l → L ≤ PO.need (l.getD j PO.m0)) → f + mo + PO.sumH l (PO.takenAll (f + mo) l) < L ∧
          ∀ m', 0 ≤ m' → (∃ p : List PO.Mem, p.Perm l ∧ PO.Runs (f + m') p) → mo + L - (f + mo + PO.sumH l (PO.takenAll (f + mo) l)) ≤ m') := Lib.hid (fun L hj hL => by
        refine ⟨?_, room_next HFA.out q2 hj hL hmin⟩
        obtain ⟨j, a, b, d⟩ := hj
        rcases PO.next_none' q4 j a with h | h
        · exact absurd h b
        · omega)
      have HNL := Lib.hid (PO.nodup_le _ _ q1 q2)
      have HSA := Lib.hid (inD_all q1 q2)
      have HNA : Hid ((PO.takenAll (f + mo) l).length ≠ n → ∃ j, j < n ∧ j ∉ PO.takenAll (f + mo) l) := Lib.hid (fun hne => by
        apply Classical.byContradiction
        intro hno
        have hs := (List.nodup_range (n := n)).length_le_of_subset (l₂ := PO.takenAll (f + mo) l) (fun x hx => by
          apply Classical.byContradiction
          intro hx2
          exact hno ⟨x, by simpa using hx, hx2⟩)
        rw [List.length_range] at hs
        have := PO.nodup_le _ _ q1 q2
        omega)
      have hsn : 0 ≤ PO.sumH l (PO.takenAll (f + mo) l) := PO.sumH_nonneg HFA.out q2
      generalize PO.takenAll (f + mo) l = D at *
      clear hmin q1 q2 q4 hmay
      have wf : IntKind.i64.wrap (f + mo) = f + mo := IntWalk.i64_in _ (by omega)
      by_cases hd : D.length = n
      · have HFIN : Hid (∀ W, Below w.heap.size w W → GivesRoom w f l (.returned (.int .i64 mo)) W) := Lib.hid (fun W hW => ⟨_, rfl, HF hd HMIN.out, hW⟩)
        have g1 : ((D.length : Int) == (n : Int)) = true := by simp; omega
        have g2 : (D.length : Int) = (n : Int) := by omega
        go_wp2_with fail
        refine K3.out.mono ?_
        rintro e w2 ⟨v, rfl, ov, h2⟩
        obtain ⟨DA, dc, rfl, hdi⟩ := ov.slice
        clear ov hdi
        go_wp2_with fail
        go_ret
        exact HFIN.out _ (bel_trans hbel h2)
      · have HEX := Lib.hid (HNA.out hd)
        have g1 : ((D.length : Int) == (n : Int)) = false := by simp; omega
        have g2 : ¬ (D.length : Int) = (n : Int) := by omega
        have g3 : ¬ D.length = n := hd
        clear HF
        go_wp2_with fail
        refine K3.out.mono ?_
        rintro e X ⟨v, rfl, ov, h2⟩
        obtain ⟨DA, dc, rfl, hdi⟩ := ov.slice
        have hX : Below w.heap.size w X := bel_trans hbel h2
        have HIN : Hid (∀ (k : Nat) W, Below X.heap.size X W → Calls Try.prog 74 #[.slice DA D.length dc, .int .i64 (k : Int)] W fun e w' => e = .returned (.bool (decide (k ∈ D))) ∧ Below W.heap.size W w') := Lib.hid (fun k W hW => by
          have K := ref28_in dc (k : Int) (hdi.keep hW)
          have e : decide ((k : Int) ∈ PO.ints D) = decide (k ∈ D) := by simp only [PO.in_ints]
          rwa [e] at K)
        clear ov hdi
        go_wp2_with fail
        go_loopw [7, 8, 9] (fun hv ls i wr => RoomIn X l (f + mo) D n hv ls i wr) (fun _ _ i _ => n - (intOf i).toNat)
        case atStart => exact ⟨0, -1, Nat.zero_le _, rfl, by simp [inD, PO.sumH], rfl, .inl ⟨rfl, fun j hj => absurd hj (by omega)⟩, Below.refl _ _⟩
        case round =>
          obtain ⟨k, L, hk, rfl, rfl, rfl, hL, hbel2⟩ := hrel
          have HL := Lib.hid hL
          have HSB := inD_bd (D := D) HFA.out (k := k) (by omega)
          have hL1 : -1 ≤ L ∧ L ≤ 1048576 := by rcases hL with ⟨a, _⟩ | ⟨a, b, _⟩ <;> omega
          clear hL
          have tw : Below w.heap.size w wr := bel_trans' hX hbel2 hX.size
          by_cases hlt : (k : Int) < (n : Int)
          · have hkn : k < n := by omega
            have HSB2 := inD_bd (D := D) HFA.out (k := k + 1) (by omega)
            have KI := HIN.out k wr hbel2
            obtain ⟨b, off, rfl, hb, hcs⟩ := HM.out (by omega)
            have HXM : Hid (∀ W, Below w.heap.size w W → MemCells W b (off + k * 4) (l.getD k PO.m0)) := Lib.hid (fun W hW => (hcs k (by omega)).keep hW hb)
            have bd := HBD.out k hkn
            have hsm := PO.sumH_snoc l (inD D k) k
            have hld : PO.held l k = (l.getD k PO.m0).2.2.1 := rfl
            rw [hld] at hsm
            have HNDK : Hid (PO.need (l.getD k PO.m0) = PO.need (l.getD k PO.m0)) := Lib.hid rfl
            have HNW : Hid (k ∉ D → (L < 0 ∨ PO.need (l.getD k PO.m0) < L) → (0 ≤ PO.need (l.getD k PO.m0) ∧ PO.need (l.getD k PO.m0) ≤ 1048576 ∧ (∃ j, j < k + 1 ∧ j ∉ D ∧ PO.need (l.getD j PO.m0) = PO.need (l.getD k PO.m0)) ∧ ∀ j, j < k + 1 → j ∉ D → PO.need (l.getD k PO.m0) ≤ PO.need (l.getD j PO.m0))) := Lib.hid (fun hin hq => by
              have hb := need_bd2 (l.getD k PO.m0)
              refine ⟨hb.1, hb.2, ⟨k, by omega, hin, rfl⟩, fun j hj hjd => ?_⟩
              rcases Nat.lt_or_ge j k with h1 | h1
              · rcases HL.out with ⟨_, a⟩ | ⟨a, _, _, d⟩
                · exact absurd (a j h1) hjd
                · have := d j h1 hjd; omega
              · obtain rfl : j = k := by omega
                exact Int.le_refl _)
            have HOD : Hid (k ∉ D → ¬ (L < 0 ∨ PO.need (l.getD k PO.m0) < L) → (0 ≤ L ∧ L ≤ 1048576 ∧ (∃ j, j < k + 1 ∧ j ∉ D ∧ PO.need (l.getD j PO.m0) = L) ∧ ∀ j, j < k + 1 → j ∉ D → L ≤ PO.need (l.getD j PO.m0))) := Lib.hid (fun hin hq => by
              rcases HL.out with ⟨a, _⟩ | ⟨a, b, ⟨j0, e0, e1, e2⟩, d⟩
              · exact absurd (.inl (by omega)) hq
              · refine ⟨a, b, ⟨j0, by omega, e1, e2⟩, fun j hj hjd => ?_⟩
                rcases Nat.lt_or_ge j k with h1 | h1
                · exact d j h1 hjd
                · obtain rfl : j = k := by omega
                  apply Classical.byContradiction
                  intro hh
                  exact hq (.inr (by omega)))
            have HDI : Hid (k ∈ D → (L = -1 ∧ ∀ j, j < k + 1 → j ∈ D) ∨ (0 ≤ L ∧ L ≤ 1048576 ∧ (∃ j, j < k + 1 ∧ j ∉ D ∧ PO.need (l.getD j PO.m0) = L) ∧ ∀ j, j < k + 1 → j ∉ D → L ≤ PO.need (l.getD j PO.m0))) := Lib.hid (fun hin => by
              rcases HL.out with ⟨a, b⟩ | ⟨a, b, ⟨j0, e0, e1, e2⟩, d⟩
              · refine .inl ⟨a, fun j hj => ?_⟩
                rcases Nat.lt_or_ge j k with h1 | h1
                · exact b j h1
                · obtain rfl : j = k := by omega
                  exact hin
              · refine .inr ⟨a, b, ⟨j0, by omega, e1, e2⟩, fun j hj hjd => ?_⟩
                rcases Nat.lt_or_ge j k with h1 | h1
                · exact d j h1 hjd
                · obtain rfl : j = k := by omega
                  exact absurd hin hjd)
            obtain ⟨m, hmm⟩ : ∃ m, l.getD k PO.m0 = m := ⟨_, rfl⟩
            rw [hmm] at HXM bd HNW HOD hsm
            have KN := Lib.hid (fun W => ref26_Need m.2.1 m.2.2.1 m.2.2.2 W bd.2.1 bd.2.2.1 bd.2.2.2)
            have en : PA.need m.2.1 m.2.2.1 m.2.2.2 = PO.need m := rfl
            rw [en] at KN
            obtain ⟨nd, hne⟩ : ∃ nd, PO.need m = nd := ⟨_, rfl⟩
            rw [hne] at KN HNW HOD
            have j1 : (0 : Int) ≤ (k : Int) := by omega
            have j2 : (k : Int) < (n : Int) := hlt
            clear hmm bd en hne hcs hld HNDK
            by_cases hin : k ∈ D
            · rw [decide_eq_true hin] at KI
              replace KI := Lib.hid KI
              have HD2 := Lib.hid (HDI.out hin)
              have HY := inD_yes hin
              rw [HY] at HSB2
              have wh : IntKind.i64.wrap (f + mo + PO.sumH l (inD D k) + m.2.2.1) = f + mo + PO.sumH l (inD D k) + m.2.2.1 := IntWalk.i64_in _ (by omega)
              have HSUM : Hid (f + mo + PO.sumH l (inD D (k + 1)) = f + mo + PO.sumH l (inD D k) + m.2.2.1) := Lib.hid (by rw [HY]; omega)
              obtain ⟨hv, hhv⟩ : ∃ hv, f + mo + PO.sumH l (inD D k) = hv := ⟨_, rfl⟩
              rw [hhv] at wh HSUM ⊢
              clear hin HY hsm HSB HSB2 hhv
              go_wp2_with fail
              refine KI.out.mono ?_
              rintro e u1 ⟨rfl, t1⟩
              obtain ⟨z0, z1, z2, z3⟩ := HXM.out u1 (bel_trans tw t1)
              go_wp2_with fail
              go_roundw
              case rel => exact ⟨k + 1, L, by omega, by go_num, by rw [HSUM.out], rfl, HD2.out, bel_trans hbel2 t1⟩
              case measure => simp [intOf] <;> omega
            · rw [decide_eq_false hin] at KI
              replace KI := Lib.hid KI
              have HSUM : Hid (inD D (k + 1) = inD D k) := Lib.hid (inD_no hin)
              obtain ⟨hv, hhv⟩ : ∃ hv, f + mo + PO.sumH l (inD D k) = hv := ⟨_, rfl⟩
              rw [hhv]
              have HHV := Lib.hid hhv
              clear hsm HSB HSB2 hhv
              by_cases hq0 : L < 0
              · have q1 : decide (L < 0) = true := decide_eq_true hq0
                have HNW2 := Lib.hid (HNW.out hin (.inl hq0))
                clear hin
                go_wp2_with fail
                refine KI.out.mono ?_
                rintro e u1 ⟨rfl, t1⟩
                have v1 := bel_trans tw t1
                obtain ⟨z0, z1, z2, z3⟩ := HXM.out u1 v1
                go_wp2_with fail
                refine (KN.out _).mono ?_
                rintro e u2 ⟨rfl, t2⟩
                go_wp2_with fail
                go_roundw
                case rel => exact ⟨k + 1, nd, by omega, by go_num, by rw [HSUM.out, HHV.out], rfl, .inr HNW2.out, bel_trans (bel_trans hbel2 t1) t2⟩
                case measure => simp [intOf] <;> omega
              · have q1 : decide (L < 0) = false := decide_eq_false hq0
                have q1' : ¬ L < 0 := hq0
                by_cases hq1 : nd < L
                · have q2 : decide (nd < L) = true := decide_eq_true hq1
                  have HNW2 := Lib.hid (HNW.out hin (.inr hq1))
                  clear hin
                  go_wp2_with fail
                  refine KI.out.mono ?_
                  rintro e u1 ⟨rfl, t1⟩
                  have v1 := bel_trans tw t1
                  obtain ⟨z0, z1, z2, z3⟩ := HXM.out u1 v1
                  go_wp2_with fail
                  refine (KN.out _).mono ?_
                  rintro e u2 ⟨rfl, t2⟩
                  have v2 := bel_trans v1 t2
                  obtain ⟨y0, y1, y2, y3⟩ := HXM.out u2 v2
                  go_wp2_with fail
                  refine (KN.out _).mono ?_
                  rintro e u3 ⟨rfl, t3⟩
                  go_wp2_with fail
                  go_roundw
                  case rel => exact ⟨k + 1, nd, by omega, by go_num, by rw [HSUM.out, HHV.out], rfl, .inr HNW2.out, bel_trans (bel_trans (bel_trans hbel2 t1) t2) t3⟩
                  case measure => simp [intOf] <;> omega
                · have q2 : decide (nd < L) = false := decide_eq_false hq1
                  have HOD2 := Lib.hid (HOD.out hin (by omega))
                  clear hin
                  go_wp2_with fail
                  refine KI.out.mono ?_
                  rintro e u1 ⟨rfl, t1⟩
                  have v1 := bel_trans tw t1
                  obtain ⟨z0, z1, z2, z3⟩ := HXM.out u1 v1
                  go_wp2_with fail
                  refine (KN.out _).mono ?_
                  rintro e u2 ⟨rfl, t2⟩
                  go_wp2_with fail
                  go_roundw
                  case rel => exact ⟨k + 1, L, by omega, by go_num, by rw [HSUM.out, HHV.out], rfl, .inr HOD2.out, bel_trans (bel_trans hbel2 t1) t2⟩
                  case measure => simp [intOf] <;> omega
          · obtain rfl : k = n := by omega
            have hall := HSA.out
            rw [hl] at hall
            rw [hall] at HSB ⊢
            have hLL : (∃ j, j < l.length ∧ j ∉ D ∧ PO.need (l.getD j PO.m0) = L) ∧ (∀ j, j < l.length → j ∉ D → L ≤ PO.need (l.getD j PO.m0)) := by
              rw [hl]
              rcases HL.out with ⟨_, a⟩ | ⟨_, _, a, b⟩
              · obtain ⟨j, hj1, hj2⟩ := HEX.out
                exact absurd (a j hj1) hj2
              · exact ⟨a, b⟩
            obtain ⟨hlt2, hmin2⟩ := HNX.out L hLL.1 hLL.2
            have HM2 := Lib.hid hmin2
            obtain ⟨sd, hsd⟩ : ∃ sd, f + mo + PO.sumH l D = sd := ⟨_, rfl⟩
            rw [hsd] at hlt2 HM2 ⊢
            have wa : IntKind.i64.wrap (mo + L) = mo + L := IntWalk.i64_in _ (by omega)
            have wb : IntKind.i64.wrap (mo + L - sd) = mo + L - sd := IntWalk.i64_in _ (by omega)
            have hr1 : 0 ≤ mo + L - sd ∧ f + (mo + L - sd) ≤ 1048576 ∧ mo < mo + L - sd := by omega
            clear hmin2 hLL hall hsd HSB
            go_wp2_with fail
            go_roundw
            case rel => exact ⟨mo + L - sd, rfl, hr1.1, hr1.2.1, HM2.out, tw⟩
            case measure => simp [intOf] <;> omega
end Go.Proofs.Ythmjbfocpdiikaa
