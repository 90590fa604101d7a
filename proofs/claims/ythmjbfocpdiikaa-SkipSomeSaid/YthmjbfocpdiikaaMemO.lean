/-
  slices.DeleteFunc over the places 0, 1, .. in a row of the call's own.
-/
import Derived.Test.YthmjbfocpdiikaaMemM
namespace Go.Proofs.Ythmjbfocpdiikaa
open Go.RowKit
set_option linter.unusedVariables false
set_option linter.unusedSimpArgs false
attribute [local go_sem] drewN_alloc drewN_setCell

def keepN (q : Nat → Bool) (k : Nat) : List Nat := (List.range k).filter q
theorem keepN_succ (q : Nat → Bool) (k : Nat) : keepN q (k + 1) = if q k = true then keepN q k ++ [k] else keepN q k := by
  unfold keepN
  rw [List.range_succ, List.filter_append]
  split <;> simp_all
theorem keepN_len (q : Nat → Bool) (k : Nat) : (keepN q k).length ≤ k := by
  have := List.length_filter_le q (List.range k)
  rwa [List.length_range] at this
theorem keepN_all {q : Nat → Bool} : ∀ (k : Nat), (∀ j, j < k → q j = true) → keepN q k = List.range k
  | 0, _ => rfl
  | k + 1, h => by rw [keepN_succ, if_pos (h k (by omega)), keepN_all k (fun j hj => h j (by omega)), List.range_succ]
theorem below_setCells' {B b : Nat} {a : World} (hb : B ≤ b) : ∀ (vs : List Value) (o : Nat) (w : World), Below B a w → Below B a (w.setCells b o vs)
  | [], _, _, h => h
  | v :: vs, o, w, h => below_setCells' hb vs (o + 1) _ (h.setCell (by dsimp only; exact hb) v)
/-- The row holds the places 0, 1, .. -/
def Places (w : World) (g n : Nat) : Prop := g < w.heap.size ∧ (∀ t, t < n → w.cell? ⟨g, t, none⟩ = some (.int .i64 (t : Int))) ∧ ∀ t, w.frozen? ⟨g, t, none⟩ = false
def DelRel (V : World) (g n : Nat) (q : Nat → Bool) (i j : Value) (wr : World) : Prop :=
  ∃ ii jj : Nat, i = .int .i64 ii ∧ j = .int .i64 jj ∧ jj ≤ n ∧ ii < jj ∧ ii = (keepN q jj).length ∧ (∀ t, t < ii → wr.cell? ⟨g, t, none⟩ = some (.int .i64 ((PO.ints (keepN q jj)).getD t 0))) ∧
    (∀ t, jj ≤ t → t < n → wr.cell? ⟨g, t, none⟩ = some (.int .i64 (t : Int))) ∧ (∀ t, t < n → ∃ v : Int, wr.cell? ⟨g, t, none⟩ = some (.int .i64 v)) ∧ (∀ t, wr.frozen? ⟨g, t, none⟩ = false) ∧ g < wr.heap.size ∧ Below g V wr

set_option maxRecDepth 100000 in
set_option maxHeartbeats 8000000 in
theorem places_DeleteFunc {g n G : Nat} (lb : Array Value) (q : Nat → Bool) {V : World} (h : Places V g n) (hn : n ≤ 1000)
    (eg : ∀ args w, (callFunc G args).run Try.prog w = .ok (.enter G args) w)
    (hp : ∀ X, Below g V X → ∀ i : Nat, i < n → Calls Try.prog G (#[.int .i64 (i : Int)] ++ lb) X fun e w' => e = .returned (.bool (!q i)) ∧ Below X.heap.size X w') :
    Calls Try.prog 62 #[.slice (some ⟨g, 0, none⟩) n n, .func (.func G) #[] lb] V fun e w' => ∃ c', e = .returned (.slice (some ⟨g, 0, none⟩) (keepN q n).length c') ∧ IntsAt w' (some ⟨g, 0, none⟩) (keepN q n).length (PO.ints (keepN q n)) ∧ Below g V w' := by
  obtain ⟨hg, hc, hf⟩ := h
  have hI : IntsAt V (some ⟨g, 0, none⟩) n (PO.ints (List.range n)) := ⟨by simp [PO.ints], by omega, fun _ => ⟨g, 0, rfl, hg, fun i hi => by
    rw [Nat.zero_add, hc i hi]; simp [PO.ints, List.getD, hi]⟩⟩
  have hget : ∀ j, j < n → (PO.ints (List.range n)).getD j 0 = (j : Int) := fun j hj => by simp [PO.ints, List.getD, hj]
  have KI := ints_IndexFunc n G lb (fun y => !q y.toNat) hI eg (fun j hj W hW => by
    rw [hget j hj]
    exact hp W (hW.mono (by omega)) j hj)
  have KI2 := KI.mono (R' := fun e w' => ∃ r : Int, e = .returned (.int .i64 r) ∧ Below V.heap.size V w' ∧ ((r = -1 ∧ ∀ j, j < n → q j = true) ∨ ∃ k : Nat, k < n ∧ r = k ∧ q k = false ∧ ∀ j, j < k → q j = true)) (by
    rintro e w' ⟨r, he, hb, hr⟩
    refine ⟨r, he, hb, ?_⟩
    rcases hr with ⟨hr, ha⟩ | ⟨k, hk, hr, h1, h2⟩
    · exact .inl ⟨hr, fun j hj => by have := ha j hj; rw [hget j hj] at this; simpa using this⟩
    · exact .inr ⟨k, hk, hr, by rw [hget k hk] at h1; simpa using h1, fun j hj => by have := h2 j hj; rw [hget j (by omega)] at this; simpa using this⟩)
  have HK := Lib.hid KI2
  have HP := Lib.hid hp
  have HC := Lib.hid hc
  have HF := Lib.hid hf
  have hcf : ∀ m w, (callFunc G (#[m] ++ lb)).run Try.prog w = .ok (.enter G (#[m] ++ lb)) w := fun m w => eg _ w
  clear KI KI2 hp hI hget hc hf
  go_enter Try.func62, Try.ntmps62
  go_wp2_with fail
  refine HK.out.mono ?_
  rintro e w1 ⟨r, rfl, h1, (⟨rfl, hall⟩ | ⟨k, hk, rfl, hqk, hqj⟩)⟩
  · have e := keepN_all n hall
    have hI : IntsAt w1 (some ⟨g, 0, none⟩) n (PO.ints (List.range n)) := ⟨by simp [PO.ints], by omega, fun _ => ⟨g, 0, rfl, Nat.lt_of_lt_of_le hg h1.size, fun i hi => by
      rw [Nat.zero_add, h1.cell hg, HC.out i hi]; simp [PO.ints, List.getD, hi]⟩⟩
    have HI := Lib.hid hI
    have HE := Lib.hid e
    clear hI e hall
    go_wp2_with fail
    exact bodyPost_ret (v := .slice (some ⟨g, 0, none⟩) n n) (by simp [results, Try.results62, go_sem]) rfl ⟨n, by rw [HE.out, List.length_range], by rw [HE.out, List.length_range]; exact HI.out, h1.mono (by omega)⟩
  · have hkn : ¬ ((k : Int) = -1) := by omega
    have q1 : ((k : Int) == -1) = false := by simp
    have hst : Hid (DelRel V g n q (.int .i64 (k : Int)) (.int .i64 ((k : Int) + 1)) w1) := Lib.hid (by
      have e0 := keepN_all k hqj
      have e : keepN q (k + 1) = List.range k := by rw [keepN_succ, hqk, if_neg (by simp), e0]
      have hcell : ∀ t, t < n → w1.cell? ⟨g, t, none⟩ = some (.int .i64 (t : Int)) := fun t ht => (h1.cell hg).trans (HC.out t ht)
      refine ⟨k, k + 1, rfl, by simp, by omega, by omega, by rw [e, List.length_range], fun t ht => ?_, fun t _ ht => hcell t ht, fun t ht => ⟨_, hcell t ht⟩, fun t => (h1.frozen (p := ⟨g, t, none⟩) hg).trans (HF.out t), Nat.lt_of_lt_of_le hg h1.size, h1.mono (by omega)⟩
      rw [e, hcell t (by omega)]
      simp [PO.ints, List.getD, ht])
    clear hqk hqj
    go_wp2_with fail
    go_loopw [5, 6] (fun i j wr => DelRel V g n q i j wr) (fun _ j _ => n - (intOf j).toNat)
    case atStart => exact hst.out
    case round =>
      obtain ⟨ii, jj, rfl, rfl, hj, hij, hil, hlow, hhigh, hsome, hfr, hgw, hbel⟩ := hrel
      have HLOW := Lib.hid hlow
      have HHIGH := Lib.hid hhigh
      have HSOME := Lib.hid hsome
      have HFR := Lib.hid hfr
      have HIL := Lib.hid hil
      have j0 : (0 : Int) ≤ (ii : Int) := by omega
      have j1 : (0 : Int) ≤ (jj : Int) := by omega
      have j2 : (ii : Int) < (n : Int) := by omega
      clear hlow hhigh hsome hfr hil
      by_cases hlt : (jj : Int) < n
      · have y0 := HHIGH.out jj (Nat.le_refl _) (by omega)
        have KP := HP.out wr hbel jj (by omega)
        have hks := keepN_succ q jj
        cases hq : q jj
        · rw [hq] at KP hks
          rw [if_neg (by simp)] at hks
          replace KP := Lib.hid KP
          have HKS := Lib.hid hks
          clear hq hks
          go_wp2_with fail
          refine KP.out.mono ?_
          rintro e w2 ⟨rfl, h2⟩
          go_wp2_with fail
          go_roundw
          case rel => exact ⟨ii, jj + 1, rfl, by go_num, by omega, by omega, by rw [HKS.out]; exact HIL.out, fun t ht => by rw [HKS.out]; exact (h2.cell hgw).trans (HLOW.out t ht), fun t h3 h4 => (h2.cell hgw).trans (HHIGH.out t (by omega) h4), fun t ht => by obtain ⟨v, hv⟩ := HSOME.out t ht; exact ⟨v, (h2.cell hgw).trans hv⟩, fun t => (h2.frozen (p := ⟨g, t, none⟩) hgw).trans (HFR.out t), Nat.lt_of_lt_of_le hgw h2.size, hbel.trans (h2.mono (by omega))⟩
          case measure => simp [intOf]; omega
        · rw [hq] at KP hks
          rw [if_pos rfl] at hks
          replace KP := Lib.hid KP
          have HKS := Lib.hid hks
          obtain ⟨vi, hvi⟩ := HSOME.out ii (by omega)
          have fi := HFR.out ii
          clear hq hks
          go_wp2_with fail
          refine KP.out.mono ?_
          rintro e w2 ⟨rfl, h2⟩
          have z0 := (h2.cell hgw).trans hvi
          have zf := (h2.frozen (p := ⟨g, ii, none⟩) hgw).trans fi
          go_wp2_with fail
          go_roundw
          case rel =>
            have far : ∀ t, t ≠ ii → (w2.setCell ⟨g, ii, none⟩ (.int .i64 (jj : Int))).cell? ⟨g, t, none⟩ = wr.cell? ⟨g, t, none⟩ := fun t ht => (World.cell?_setCell_other _ _ _ _ (by first | (simp; done) | (simp; exact fun h => ht h.symm))).trans (h2.cell hgw)
            have hlen : (PO.ints (keepN q jj)).length = ii := by rw [PO.ints_len]; exact HIL.out.symm
            refine ⟨ii + 1, jj + 1, by go_num, by go_num, by omega, by omega, by rw [HKS.out, List.length_append, ← HIL.out]; rfl, fun t ht => ?_, fun t h3 h4 => (far t (by omega)).trans (HHIGH.out t (by omega) h4), fun t ht => ?_, fun t => by rw [World.frozen?_setCell]; exact (h2.frozen (p := ⟨g, t, none⟩) hgw).trans (HFR.out t), by rw [World.size_setCell]; exact Nat.lt_of_lt_of_le hgw h2.size, (hbel.trans (h2.mono (by omega))).setCell (by dsimp only; omega) _⟩
            · rw [HKS.out, PO.ints_snoc]
              by_cases e : t = ii
              · subst e
                rw [World.cell?_setCell_same _ _ _ z0]
                simp [List.getD, List.getElem?_append_right, hlen]
              · rw [far t e, HLOW.out t (by omega)]
                simp [List.getD, List.getElem?_append_left (show t < (PO.ints (keepN q jj)).length by omega)]
            · by_cases e : t = ii
              · subst e
                exact ⟨_, World.cell?_setCell_same _ _ _ z0⟩
              · obtain ⟨v, hv⟩ := HSOME.out t ht
                exact ⟨v, (far t e).trans hv⟩
          case measure => simp [intOf]; omega
      · obtain rfl : jj = n := by omega
        have hcl := Lib.run_clear_slice (P := Try.prog) wr 41 3 0 (.int .i64 0) Try.underlying41 (fun w => Try.zeroValue3 w) rfl rfl g ii (jj - ii) (jj - ii) (by omega) (fun j hj => by obtain ⟨v, hv⟩ := HSOME.out (ii + j) (by omega); rw [hv]; rfl) (fun j _ => HFR.out _)
        have hle : (ii : Int) ≤ (jj : Int) := by omega
        have e := HIL.out
        have hb := below_setCells' (Nat.le_refl g) (List.replicate (jj - ii) (.int .i64 0)) ii wr hbel
        have hI : IntsAt (wr.setCells g ii (List.replicate (jj - ii) (.int .i64 0))) (some ⟨g, 0, none⟩) ii (PO.ints (keepN q jj)) := ⟨by rw [PO.ints_len]; exact e.symm, by omega, fun _ => ⟨g, 0, rfl, Nat.lt_of_lt_of_le hg hb.size, fun t ht => by
          rw [Nat.zero_add, World.cell?_setCells_out g _ _ _ _ (fun _ _ => .inl ht)]
          exact HLOW.out t ht⟩⟩
        have HI := Lib.hid hI
        have HB := Lib.hid hb
        have HE := Lib.hid e
        clear e hI hb
        go_wp2_with fail
        exact bodyPost_ret (v := .slice (some ⟨g, 0, none⟩) ii jj) (by simp [results, Try.results62, go_sem]) rfl ⟨⟨jj, by rw [← HE.out]⟩, by rw [← HE.out]; exact HI.out, HB.out⟩

def FillRel (V : World) (g n : Nat) (i : Value) (wr : World) : Prop :=
  ∃ k : Nat, k ≤ n ∧ i = .int .i64 k ∧ (∀ t, t < k → wr.cell? ⟨g, t, none⟩ = some (.int .i64 (t : Int))) ∧ (∀ t, k ≤ t → t < n → wr.cell? ⟨g, t, none⟩ = some (.int .i64 0)) ∧ (∀ t, wr.frozen? ⟨g, t, none⟩ = false) ∧ g < wr.heap.size ∧ Below g V wr
set_option maxRecDepth 100000 in
set_option maxHeartbeats 8000000 in
theorem bank_Which {A : Option Addr} {n : Nat} {l : List PO.Mem} (c : Nat) (f w x : Int) {W : World} (h : MemAt W A n l) (hn : n ≤ 1000) (bf : -9223372036854775808 ≤ f ∧ f ≤ 9223372036854775807) (bw : -9223372036854775808 ≤ w ∧ w ≤ 9223372036854775807) (bx : -9223372036854775808 ≤ x ∧ x ≤ 9223372036854775807) :
    Calls Try.prog 28 #[.int .i64 f, .int .i64 w, .slice A n c, .int .i64 x] W fun e W' => ∃ A' c', e = .returned (.slice A' (which f w l x n).length c') ∧ IntsAt W' A' (which f w l x n).length (PO.ints (which f w l x n)) ∧ Below W.heap.size W W' := by
  have hinfo : (Try.prog.info? 3).map (fun i => (i.zero, i.size, i.bytes)) = some (some (.int .i64 0), 1, 8) := by kernel_rfl
  have hmk := run_make_row' (P := Try.prog) 41 3 (.int .i64 0) 8 Try.underlying41 hinfo rfl .i64 .i64 n (by omega) (by omega)
  obtain ⟨Z, hZ⟩ : ∃ Z, madeCells #[Value.int .i64 0] n = Z := ⟨_, rfl⟩
  rw [hZ] at hmk
  obtain ⟨p, hp⟩ : ∃ p, W.heap.size = p := ⟨_, rfl⟩
  obtain ⟨V, hV⟩ : ∃ V, ((((W.alloc (.cells #[.int .i64 f] 3)).alloc (.cells #[.int .i64 w] 3)).alloc (.cells #[.slice A n c] 23)).alloc (.cells #[.int .i64 x] 3)).alloc (.cells Z 3) = V := ⟨_, rfl⟩
  have hB : Below W.heap.size W V := by rw [← hV]; exact (by repeat (first | exact Below.refl _ _ | assumption | refine bel_drew ?_ | refine bel_drewN ?_ _ | refine bel_alloc ?_ _ | refine bel_set ?_ (by first | (dsimp only; omega) | (simp; done) | (simp; omega)) _ | refine bel_trans ?_ (by assumption)))
  have sV : V.heap.size = p + 5 := by rw [← hV, ← hp]; simp
  have v0 : V.cell? ⟨p, 0, none⟩ = some (.int .i64 f) := by rw [← hV, ← hp]; simp [go_sem]
  have v1 : V.cell? ⟨p + 1, 0, none⟩ = some (.int .i64 w) := by rw [← hV, ← hp]; simp [go_sem]
  have v2 : V.cell? ⟨p + 1 + 1, 0, none⟩ = some (.slice A n c) := by rw [← hV, ← hp]; simp [go_sem]
  have v3 : V.cell? ⟨p + 1 + 1 + 1, 0, none⟩ = some (.int .i64 x) := by rw [← hV, ← hp]; simp [go_sem]
  have v4 : ∀ t, t < n → V.cell? ⟨p + 4, t, none⟩ = some (.int .i64 0) := fun t ht => by
    have e : V.cell? ⟨p + 4, t, none⟩ = Z[t]? := by rw [← hV, ← hp]; simp [go_sem]
    rw [e, ← hZ]
    simp [madeCells, ht, Nat.mod_one]
  have v4f : ∀ t, V.frozen? ⟨p + 4, t, none⟩ = false := fun t => by rw [← hV, ← hp]; simp [go_sem]
  have hM := h.keep hB
  have HP : Hid (∀ X, Below (p + 4) V X → ∀ i : Nat, i < n → Calls Try.prog 61 (#[.int .i64 (i : Int)] ++ #[.pointer (some ⟨p, 0, none⟩), .pointer (some ⟨p + 1, 0, none⟩), .pointer (some ⟨p + 1 + 1, 0, none⟩), .pointer (some ⟨p + 1 + 1 + 1, 0, none⟩)]) X fun e w' => e = .returned (.bool (!(PO.bmay f w l i x))) ∧ Below X.heap.size X w') := Lib.hid (fun X hX i hi => by
    have hMX : MemAt X A n l := by
      refine (hM.keepB hX.size (fun b off e h0 hb => hX.block b ?_))
      obtain ⟨b', off', e', hb', _⟩ := h.2.2.2 h0
      rw [e] at e'
      cases e'
      omega
    exact which_pred c p f w x i hMX hn bf bw (by omega) bx ((hX.cell (p := ⟨p, 0, none⟩) (by dsimp only; omega)).trans v0) ((hX.cell (p := ⟨p + 1, 0, none⟩) (by dsimp only; omega)).trans v1) ((hX.cell (p := ⟨p + 1 + 1, 0, none⟩) (by dsimp only; omega)).trans v2) ((hX.cell (p := ⟨p + 1 + 1 + 1, 0, none⟩) (by dsimp only; omega)).trans v3))
  have H4 := Lib.hid v4
  have H4F := Lib.hid v4f
  have HV := Lib.hid hV
  have HB := Lib.hid hB
  have HPS := Lib.hid hp
  have H2 := Lib.hid v2
  clear hinfo hZ hV hB hM h v0 v1 v3 v4 v4f bf bw bx hp v2
  go_enter Try.func28, Try.ntmps28
  go_wp2_with fail
  rw [HV.out, HPS.out]
  go_loopw [17] (fun i wr => FillRel V (p + 4) n i wr) (fun i _ => n - (intOf i).toNat)
  case atStart => exact ⟨0, Nat.zero_le _, rfl, fun t ht => absurd ht (by omega), fun t _ ht => H4.out t ht, H4F.out, by omega, Below.refl _ _⟩
  case round =>
    obtain ⟨k, hk, rfl, hlow, hhigh, hfr, hgw, hbel⟩ := hrel
    have HLOW := Lib.hid hlow
    have HHIGH := Lib.hid hhigh
    have HFR := Lib.hid hfr
    have j0 : (0 : Int) ≤ (k : Int) := by omega
    clear hlow hhigh hfr
    by_cases hlt : (k : Int) < n
    · have z0 := HHIGH.out k (Nat.le_refl _) (by omega)
      have zf := HFR.out k
      go_wp2_with fail
      go_roundw
      case rel =>
        have far : ∀ t, t ≠ k → (wr.setCell ⟨p + 4, k, none⟩ (.int .i64 (k : Int))).cell? ⟨p + 4, t, none⟩ = wr.cell? ⟨p + 4, t, none⟩ := fun t ht => World.cell?_setCell_other _ _ _ _ (by first | (simp; done) | (simp; exact fun h => ht h.symm))
        refine ⟨k + 1, by omega, by go_num, fun t ht => ?_, fun t h3 h4 => (far t (by omega)).trans (HHIGH.out t (by omega) h4), fun t => by rw [World.frozen?_setCell]; exact HFR.out t, by rw [World.size_setCell]; exact hgw, hbel.setCell (by dsimp only; omega) _⟩
        by_cases e : t = k
        · subst e
          exact World.cell?_setCell_same _ _ _ z0
        · exact (far t e).trans (HLOW.out t (by omega))
      case measure => simp [intOf]; omega
    · obtain rfl : k = n := by omega
      have KD := places_DeleteFunc (g := p + 4) (G := 61) #[.pointer (some ⟨p, 0, none⟩), .pointer (some ⟨p + 1, 0, none⟩), .pointer (some ⟨p + 1 + 1, 0, none⟩), .pointer (some ⟨p + 1 + 1 + 1, 0, none⟩)] (fun i => PO.bmay f w l i x) (V := wr) ⟨hgw, HLOW.out, HFR.out⟩ hn (fun args w => by simp [go_sem]) (fun X hX i hi => HP.out X (hbel.trans hX) i hi)
      replace KD := Lib.hid KD
      go_wp2_with fail
      refine KD.out.mono ?_
      rintro e w5 ⟨c5, rfl, i5, h5⟩
      have e : keepN (fun i => PO.bmay f w l i x) k = which f w l x k := rfl
      rw [e] at i5 ⊢
      have hfin : Below W.heap.size W w5 := HB.out.trans ((hbel.trans h5).mono (by rw [HPS.out]; omega))
      go_wp2_with fail
      exact bodyPost_ret (v := .slice (some ⟨p + 4, 0, none⟩) (which f w l x k).length c5) (by simp [results, Try.results28, go_sem]) rfl ⟨_, c5, rfl, i5, hfin⟩
end Go.Proofs.Ythmjbfocpdiikaa
