/- Part 4 of the proof of GrantParts: lemmas, each with its conditions ahead of it. -/
import Derived.Test.YthmjbfocpdiikaaPartGrantParts3
import Derived.Test.YthmjbfocpdiikaaPartGrantParts2
/-
  slices.DeleteFunc over the places 0, 1, .. in a row of the call's own.
-/
namespace Go.Proofs.Ythmjbfocpdiikaa
open Go.RowKit
set_option linter.unusedVariables false
set_option linter.unusedSimpArgs false
attribute [local go_sem] drewN_alloc drewN_setCell

def keepN (q : Nat → Bool) (k : Nat) : List Nat := (List.range k).filter q
theorem keepN_succ (q : Nat → Bool) (k : Nat) : keepN q (k + 1) = if q k = true then keepN q k ++ [k] else keepN q k := by
  unfold keepN
  rw [List.range_succ, List.filter_append]
  split <;> simp_all
theorem keepN_len (q : Nat → Bool) (k : Nat) : (keepN q k).length ≤ k := by
  have := List.length_filter_le q (List.range k)
  rwa [List.length_range] at this
theorem keepN_all {q : Nat → Bool} : ∀ (k : Nat), (∀ j, j < k → q j = true) → keepN q k = List.range k
  | 0, _ => rfl
  | k + 1, h => by rw [keepN_succ, if_pos (h k (by omega)), keepN_all k (fun j hj => h j (by omega)), List.range_succ]
theorem below_setCells' {B b : Nat} {a : World} (hb : B ≤ b) : ∀ (vs : List Value) (o : Nat) (w : World), Below B a w → Below B a (w.setCells b o vs)
  | [], _, _, h => h
  | v :: vs, o, w, h => below_setCells' hb vs (o + 1) _ (h.setCell (by dsimp only; exact hb) v)
/-- The row holds the places 0, 1, .. -/
def Places (w : World) (g n : Nat) : Prop := g < w.heap.size ∧ (∀ t, t < n → w.cell? ⟨g, t, none⟩ = some (.int .i64 (t : Int))) ∧ ∀ t, w.frozen? ⟨g, t, none⟩ = false
def DelRel (V : World) (g n : Nat) (q : Nat → Bool) (i j : Value) (wr : World) : Prop :=
  ∃ ii jj : Nat, i = .int .i64 ii ∧ j = .int .i64 jj ∧ jj ≤ n ∧ ii < jj ∧ ii = (keepN q jj).length ∧ (∀ t, t < ii → wr.cell? ⟨g, t, none⟩ = some (.int .i64 ((PO.ints (keepN q jj)).getD t 0))) ∧
    (∀ t, jj ≤ t → t < n → wr.cell? ⟨g, t, none⟩ = some (.int .i64 (t : Int))) ∧ (∀ t, t < n → ∃ v : Int, wr.cell? ⟨g, t, none⟩ = some (.int .i64 v)) ∧ (∀ t, wr.frozen? ⟨g, t, none⟩ = false) ∧ g < wr.heap.size ∧ Below g V wr

set_option maxRecDepth 100000 in
set_option maxHeartbeats 8000000 in
theorem places_DeleteFunc {g n G : Nat} (lb : Array Value) (q : Nat → Bool) {V : World} (h : Places V g n) (hn : n ≤ 1000)
    (eg : ∀ args w, (callFunc G args).run Try.prog w = .ok (.enter G args) w)
    (hp : ∀ X, Below g V X → ∀ i : Nat, i < n → Calls Try.prog G (#[.int .i64 (i : Int)] ++ lb) X fun e w' => e = .returned (.bool (!q i)) ∧ Below X.heap.size X w') :
    Calls Try.prog 62 #[.slice (some ⟨g, 0, none⟩) n n, .func (.func G) #[] lb] V fun e w' => ∃ c', e = .returned (.slice (some ⟨g, 0, none⟩) (keepN q n).length c') ∧ IntsAt w' (some ⟨g, 0, none⟩) (keepN q n).length (PO.ints (keepN q n)) ∧ Below g V w' := by
  obtain ⟨hg, hc, hf⟩ := h
  have hI : IntsAt V (some ⟨g, 0, none⟩) n (PO.ints (List.range n)) := ⟨by simp [PO.ints], by omega, fun _ => ⟨g, 0, rfl, hg, fun i hi => by
    rw [Nat.zero_add, hc i hi]; simp [PO.ints, List.getD, hi]⟩⟩
  have hget : ∀ j, j < n → (PO.ints (List.range n)).getD j 0 = (j : Int) := fun j hj => by simp [PO.ints, List.getD, hj]
  have KI := ints_IndexFunc n G lb (fun y => !q y.toNat) hI eg (fun j hj W hW => by
    rw [hget j hj]
    exact hp W (hW.mono (by omega)) j hj)
  have KI2 := KI.mono (R' := fun e w' => ∃ r : Int, e = .returned (.int .i64 r) ∧ Below V.heap.size V w' ∧ ((r = -1 ∧ ∀ j, j < n → q j = true) ∨ ∃ k : Nat, k < n ∧ r = k ∧ q k = false ∧ ∀ j, j < k → q j = true)) (by
    rintro e w' ⟨r, he, hb, hr⟩
    refine ⟨r, he, hb, ?_⟩
    rcases hr with ⟨hr, ha⟩ | ⟨k, hk, hr, h1, h2⟩
    · exact .inl ⟨hr, fun j hj => by have := ha j hj; rw [hget j hj] at this; simpa using this⟩
    · exact .inr ⟨k, hk, hr, by rw [hget k hk] at h1; simpa using h1, fun j hj => by have := h2 j hj; rw [hget j (by omega)] at this; simpa using this⟩)
  have HK := Lib.hid KI2
  have HP := Lib.hid hp
  have HC := Lib.hid hc
  have HF := Lib.hid hf
  have hcf : ∀ m w, (callFunc G (#[m] ++ lb)).run Try.prog w = .ok (.enter G (#[m] ++ lb)) w := fun m w => eg _ w
  clear KI KI2 hp hI hget hc hf
  go_enter Try.func62, Try.ntmps62
  go_wp2_with fail
  refine HK.out.mono ?_
  rintro e w1 ⟨r, rfl, h1, (⟨rfl, hall⟩ | ⟨k, hk, rfl, hqk, hqj⟩)⟩
  · have e := keepN_all n hall
    have hI : IntsAt w1 (some ⟨g, 0, none⟩) n (PO.ints (List.range n)) := ⟨by simp [PO.ints], by omega, fun _ => ⟨g, 0, rfl, Nat.lt_of_lt_of_le hg h1.size, fun i hi => by
      rw [Nat.zero_add, h1.cell hg, HC.out i hi]; simp [PO.ints, List.getD, hi]⟩⟩
    have HI := Lib.hid hI
    have HE := Lib.hid e
    clear hI e hall
    go_wp2_with fail
    exact bodyPost_ret (v := .slice (some ⟨g, 0, none⟩) n n) (by simp [results, Try.results62, go_sem]) rfl ⟨n, by rw [HE.out, List.length_range], by rw [HE.out, List.length_range]; exact HI.out, h1.mono (by omega)⟩
  · have hkn : ¬ ((k : Int) = -1) := by omega
    have q1 : ((k : Int) == -1) = false := by simp
    have hst : Hid (DelRel V g n q (.int .i64 (k : Int)) (.int .i64 ((k : Int) + 1)) w1) := Lib.hid (by
      have e0 := keepN_all k hqj
      have e : keepN q (k + 1) = List.range k := by rw [keepN_succ, hqk, if_neg (by simp), e0]
      have hcell : ∀ t, t < n → w1.cell? ⟨g, t, none⟩ = some (.int .i64 (t : Int)) := fun t ht => (h1.cell hg).trans (HC.out t ht)
      refine ⟨k, k + 1, rfl, by simp, by omega, by omega, by rw [e, List.length_range], fun t ht => ?_, fun t _ ht => hcell t ht, fun t ht => ⟨_, hcell t ht⟩, fun t => (h1.frozen (p := ⟨g, t, none⟩) hg).trans (HF.out t), Nat.lt_of_lt_of_le hg h1.size, h1.mono (by omega)⟩
      rw [e, hcell t (by omega)]
      simp [PO.ints, List.getD, ht])
    clear hqk hqj
    go_wp2_with fail
    go_loopw [5, 6] (fun i j wr => DelRel V g n q i j wr) (fun _ j _ => n - (intOf j).toNat)
    case atStart => exact hst.out
    case round =>
      obtain ⟨ii, jj, rfl, rfl, hj, hij, hil, hlow, hhigh, hsome, hfr, hgw, hbel⟩ := hrel
      have HLOW := Lib.hid hlow
      have HHIGH := Lib.hid hhigh
      have HSOME := Lib.hid hsome
      have HFR := Lib.hid hfr
      have HIL := Lib.hid hil
      have j0 : (0 : Int) ≤ (ii : Int) := by omega
      have j1 : (0 : Int) ≤ (jj : Int) := by omega
      have j2 : (ii : Int) < (n : Int) := by omega
      clear hlow hhigh hsome hfr hil
      by_cases hlt : (jj : Int) < n
      · have y0 := HHIGH.out jj (Nat.le_refl _) (by omega)
        have KP := HP.out wr hbel jj (by omega)
        have hks := keepN_succ q jj
        cases hq : q jj
        · rw [hq] at KP hks
          rw [if_neg (by simp)] at hks
          replace KP := Lib.hid KP
          have HKS := Lib.hid hks
          clear hq hks
          go_wp2_with fail
          refine KP.out.mono ?_
          rintro e w2 ⟨rfl, h2⟩
          go_wp2_with fail
          go_roundw
          case rel => exact ⟨ii, jj + 1, rfl, by go_num, by omega, by omega, by rw [HKS.out]; exact HIL.out, fun t ht => by rw [HKS.out]; exact (h2.cell hgw).trans (HLOW.out t ht), fun t h3 h4 => (h2.cell hgw).trans (HHIGH.out t (by omega) h4), fun t ht => by obtain ⟨v, hv⟩ := HSOME.out t ht; exact ⟨v, (h2.cell hgw).trans hv⟩, fun t => (h2.frozen (p := ⟨g, t, none⟩) hgw).trans (HFR.out t), Nat.lt_of_lt_of_le hgw h2.size, hbel.trans (h2.mono (by omega))⟩
          case measure => simp [intOf]; omega
        · rw [hq] at KP hks
          rw [if_pos rfl] at hks
          replace KP := Lib.hid KP
          have HKS := Lib.hid hks
          obtain ⟨vi, hvi⟩ := HSOME.out ii (by omega)
          have fi := HFR.out ii
          clear hq hks
          go_wp2_with fail
          refine KP.out.mono ?_
          rintro e w2 ⟨rfl, h2⟩
          have z0 := (h2.cell hgw).trans hvi
          have zf := (h2.frozen (p := ⟨g, ii, none⟩) hgw).trans fi
          go_wp2_with fail
          go_roundw
          case rel =>
            have far : ∀ t, t ≠ ii → (w2.setCell ⟨g, ii, none⟩ (.int .i64 (jj : Int))).cell? ⟨g, t, none⟩ = wr.cell? ⟨g, t, none⟩ := fun t ht => (World.cell?_setCell_other _ _ _ _ (by first | (simp; done) | (simp; exact fun h => ht h.symm))).trans (h2.cell hgw)
            have hlen : (PO.ints (keepN q jj)).length = ii := by rw [PO.ints_len]; exact HIL.out.symm
            refine ⟨ii + 1, jj + 1, by go_num, by go_num, by omega, by omega, by rw [HKS.out, List.length_append, ← HIL.out]; rfl, fun t ht => ?_, fun t h3 h4 => (far t (by omega)).trans (HHIGH.out t (by omega) h4), fun t ht => ?_, fun t => by rw [World.frozen?_setCell]; exact (h2.frozen (p := ⟨g, t, none⟩) hgw).trans (HFR.out t), by rw [World.size_setCell]; exact Nat.lt_of_lt_of_le hgw h2.size, (hbel.trans (h2.mono (by omega))).setCell (by dsimp only; omega) _⟩
            · rw [HKS.out, PO.ints_snoc]
              by_cases e : t = ii
              · subst e
                rw [World.cell?_setCell_same _ _ _ z0]
                simp [List.getD, List.getElem?_append_right, hlen]
              · rw [far t e, HLOW.out t (by omega)]
                simp [List.getD, List.getElem?_append_left (show t < (PO.ints (keepN q jj)).length by omega)]
            · by_cases e : t = ii
              · subst e
                exact ⟨_, World.cell?_setCell_same _ _ _ z0⟩
              · obtain ⟨v, hv⟩ := HSOME.out t ht
                exact ⟨v, (far t e).trans hv⟩
          case measure => simp [intOf]; omega
      · obtain rfl : jj = n := by omega
        have hcl := Lib.run_clear_slice (P := Try.prog) wr 41 3 0 (.int .i64 0) Try.underlying41 (fun w => Try.zeroValue3 w) rfl rfl g ii (jj - ii) (jj - ii) (by omega) (fun j hj => by obtain ⟨v, hv⟩ := HSOME.out (ii + j) (by omega); rw [hv]; rfl) (fun j _ => HFR.out _)
        have hle : (ii : Int) ≤ (jj : Int) := by omega
        have e := HIL.out
        have hb := below_setCells' (Nat.le_refl g) (List.replicate (jj - ii) (.int .i64 0)) ii wr hbel
        have hI : IntsAt (wr.setCells g ii (List.replicate (jj - ii) (.int .i64 0))) (some ⟨g, 0, none⟩) ii (PO.ints (keepN q jj)) := ⟨by rw [PO.ints_len]; exact e.symm, by omega, fun _ => ⟨g, 0, rfl, Nat.lt_of_lt_of_le hg hb.size, fun t ht => by
          rw [Nat.zero_add, World.cell?_setCells_out g _ _ _ _ (fun _ _ => .inl ht)]
          exact HLOW.out t ht⟩⟩
        have HI := Lib.hid hI
        have HB := Lib.hid hb
        have HE := Lib.hid e
        clear e hI hb
        go_wp2_with fail
        exact bodyPost_ret (v := .slice (some ⟨g, 0, none⟩) ii jj) (by simp [results, Try.results62, go_sem]) rfl ⟨⟨jj, by rw [← HE.out]⟩, by rw [← HE.out]; exact HI.out, HB.out⟩

def FillRel (V : World) (g n : Nat) (i : Value) (wr : World) : Prop :=
  ∃ k : Nat, k ≤ n ∧ i = .int .i64 k ∧ (∀ t, t < k → wr.cell? ⟨g, t, none⟩ = some (.int .i64 (t : Int))) ∧ (∀ t, k ≤ t → t < n → wr.cell? ⟨g, t, none⟩ = some (.int .i64 0)) ∧ (∀ t, wr.frozen? ⟨g, t, none⟩ = false) ∧ g < wr.heap.size ∧ Below g V wr
set_option maxRecDepth 100000 in
set_option maxHeartbeats 8000000 in
theorem bank_Which {A : Option Addr} {n : Nat} {l : List PO.Mem} (c : Nat) (f w x : Int) {W : World} (h : MemAt W A n l) (hn : n ≤ 1000) (bf : -9223372036854775808 ≤ f ∧ f ≤ 9223372036854775807) (bw : -9223372036854775808 ≤ w ∧ w ≤ 9223372036854775807) (bx : -9223372036854775808 ≤ x ∧ x ≤ 9223372036854775807) :
    Calls Try.prog 28 #[.int .i64 f, .int .i64 w, .slice A n c, .int .i64 x] W fun e W' => ∃ A' c', e = .returned (.slice A' (which f w l x n).length c') ∧ IntsAt W' A' (which f w l x n).length (PO.ints (which f w l x n)) ∧ Below W.heap.size W W' := by
  have hinfo : (Try.prog.info? 3).map (fun i => (i.zero, i.size, i.bytes)) = some (some (.int .i64 0), 1, 8) := by kernel_rfl
  have hmk := run_make_row' (P := Try.prog) 41 3 (.int .i64 0) 8 Try.underlying41 hinfo rfl .i64 .i64 n (by omega) (by omega)
  obtain ⟨Z, hZ⟩ : ∃ Z, madeCells #[Value.int .i64 0] n = Z := ⟨_, rfl⟩
  rw [hZ] at hmk
  obtain ⟨p, hp⟩ : ∃ p, W.heap.size = p := ⟨_, rfl⟩
  obtain ⟨V, hV⟩ : ∃ V, ((((W.alloc (.cells #[.int .i64 f] 3)).alloc (.cells #[.int .i64 w] 3)).alloc (.cells #[.slice A n c] 23)).alloc (.cells #[.int .i64 x] 3)).alloc (.cells Z 3) = V := ⟨_, rfl⟩
  have hB : Below W.heap.size W V := by rw [← hV]; exact (by repeat (first | exact Below.refl _ _ | assumption | refine bel_drew ?_ | refine bel_drewN ?_ _ | refine bel_alloc ?_ _ | refine bel_set ?_ (by first | (dsimp only; omega) | (simp; done) | (simp; omega)) _ | refine bel_trans ?_ (by assumption)))
  have sV : V.heap.size = p + 5 := by rw [← hV, ← hp]; simp
  have v0 : V.cell? ⟨p, 0, none⟩ = some (.int .i64 f) := by rw [← hV, ← hp]; simp [go_sem]
  have v1 : V.cell? ⟨p + 1, 0, none⟩ = some (.int .i64 w) := by rw [← hV, ← hp]; simp [go_sem]
  have v2 : V.cell? ⟨p + 1 + 1, 0, none⟩ = some (.slice A n c) := by rw [← hV, ← hp]; simp [go_sem]
  have v3 : V.cell? ⟨p + 1 + 1 + 1, 0, none⟩ = some (.int .i64 x) := by rw [← hV, ← hp]; simp [go_sem]
  have v4 : ∀ t, t < n → V.cell? ⟨p + 4, t, none⟩ = some (.int .i64 0) := fun t ht => by
    have e : V.cell? ⟨p + 4, t, none⟩ = Z[t]? := by rw [← hV, ← hp]; simp [go_sem]
    rw [e, ← hZ]
    simp [madeCells, ht, Nat.mod_one]
  have v4f : ∀ t, V.frozen? ⟨p + 4, t, none⟩ = false := fun t => by rw [← hV, ← hp]; simp [go_sem]
  have hM := h.keep hB
  have HP : Hid (∀ X, Below (p + 4) V X → ∀ i : Nat, i < n → Calls Try.prog 61 (#[.int .i64 (i : Int)] ++ #[.pointer (some ⟨p, 0, none⟩), .pointer (some ⟨p + 1, 0, none⟩), .pointer (some ⟨p + 1 + 1, 0, none⟩), .pointer (some ⟨p + 1 + 1 + 1, 0, none⟩)]) X fun e w' => e = .returned (.bool (!(PO.bmay f w l i x))) ∧ Below X.heap.size X w') := Lib.hid (fun X hX i hi => by
    have hMX : MemAt X A n l := by
      refine (hM.keepB hX.size (fun b off e h0 hb => hX.block b ?_))
      obtain ⟨b', off', e', hb', _⟩ := h.2.2.2 h0
      rw [e] at e'
      cases e'
      omega
    exact which_pred c p f w x i hMX hn bf bw (by omega) bx ((hX.cell (p := ⟨p, 0, none⟩) (by dsimp only; omega)).trans v0) ((hX.cell (p := ⟨p + 1, 0, none⟩) (by dsimp only; omega)).trans v1) ((hX.cell (p := ⟨p + 1 + 1, 0, none⟩) (by dsimp only; omega)).trans v2) ((hX.cell (p := ⟨p + 1 + 1 + 1, 0, none⟩) (by dsimp only; omega)).trans v3))
  have H4 := Lib.hid v4
  have H4F := Lib.hid v4f
  have HV := Lib.hid hV
  have HB := Lib.hid hB
  have HPS := Lib.hid hp
  have H2 := Lib.hid v2
  clear hinfo hZ hV hB hM h v0 v1 v3 v4 v4f bf bw bx hp v2
  go_enter Try.func28, Try.ntmps28
  go_wp2_with fail
  rw [HV.out, HPS.out]
  go_loopw [17] (fun i wr => FillRel V (p + 4) n i wr) (fun i _ => n - (intOf i).toNat)
  case atStart => exact ⟨0, Nat.zero_le _, rfl, fun t ht => absurd ht (by omega), fun t _ ht => H4.out t ht, H4F.out, by omega, Below.refl _ _⟩
  case round =>
    obtain ⟨k, hk, rfl, hlow, hhigh, hfr, hgw, hbel⟩ := hrel
    have HLOW := Lib.hid hlow
    have HHIGH := Lib.hid hhigh
    have HFR := Lib.hid hfr
    have j0 : (0 : Int) ≤ (k : Int) := by omega
    clear hlow hhigh hfr
    by_cases hlt : (k : Int) < n
    · have z0 := HHIGH.out k (Nat.le_refl _) (by omega)
      have zf := HFR.out k
      go_wp2_with fail
      go_roundw
      case rel =>
        have far : ∀ t, t ≠ k → (wr.setCell ⟨p + 4, k, none⟩ (.int .i64 (k : Int))).cell? ⟨p + 4, t, none⟩ = wr.cell? ⟨p + 4, t, none⟩ := fun t ht => World.cell?_setCell_other _ _ _ _ (by first | (simp; done) | (simp; exact fun h => ht h.symm))
        refine ⟨k + 1, by omega, by go_num, fun t ht => ?_, fun t h3 h4 => (far t (by omega)).trans (HHIGH.out t (by omega) h4), fun t => by rw [World.frozen?_setCell]; exact HFR.out t, by rw [World.size_setCell]; exact hgw, hbel.setCell (by dsimp only; omega) _⟩
        by_cases e : t = k
        · subst e
          exact World.cell?_setCell_same _ _ _ z0
        · exact (far t e).trans (HLOW.out t (by omega))
      case measure => simp [intOf]; omega
    · obtain rfl : k = n := by omega
      have KD := places_DeleteFunc (g := p + 4) (G := 61) #[.pointer (some ⟨p, 0, none⟩), .pointer (some ⟨p + 1, 0, none⟩), .pointer (some ⟨p + 1 + 1, 0, none⟩), .pointer (some ⟨p + 1 + 1 + 1, 0, none⟩)] (fun i => PO.bmay f w l i x) (V := wr) ⟨hgw, HLOW.out, HFR.out⟩ hn (fun args w => by simp [go_sem]) (fun X hX i hi => HP.out X (hbel.trans hX) i hi)
      replace KD := Lib.hid KD
      go_wp2_with fail
      refine KD.out.mono ?_
      rintro e w5 ⟨c5, rfl, i5, h5⟩
      have e : keepN (fun i => PO.bmay f w l i x) k = which f w l x k := rfl
      rw [e] at i5 ⊢
      have hfin : Below W.heap.size W w5 := HB.out.trans ((hbel.trans h5).mono (by rw [HPS.out]; omega))
      go_wp2_with fail
      exact bodyPost_ret (v := .slice (some ⟨p + 4, 0, none⟩) (which f w l x k).length c5) (by simp [results, Try.results28, go_sem]) rfl ⟨_, c5, rfl, i5, hfin⟩
end Go.Proofs.Ythmjbfocpdiikaa
/-
  Layer 29 (bank): the walk of BankMay.
-/
namespace Go.Proofs.Ythmjbfocpdiikaa
open Go.RowKit
set_option linter.unusedVariables false
set_option linter.unusedSimpArgs false
attribute [local go_sem] drewN_alloc drewN_setCell

theorem same_ints_refl {A B : Option Addr} {n m : Nat} {xs : List Int} (c d : Nat) {w : World} (hx : IntsAt w A n xs) (hy : IntsAt w B m xs) :
    Calls Try.prog 27 #[.slice A n c, .slice B m d] w fun e w' => e = .returned (.bool true) ∧ Below w.heap.size w w' := by
  have K := base_SameInts c d hx hy
  rwa [decide_eq_true (rfl : xs = xs)] at K
theorem law29_BankMay_long (A : Option Addr) (n c : Nat) (f wt a x : Int) (w : World) (hn : 16 < n) :
    Calls Try.prog 6 #[.agg #[.int .i64 f, .int .i64 wt], .slice A n c, .agg #[.int .i64 a, .int .i64 x]] w fun e w' => e = .returned (.bool true) ∧ Below w.heap.size w w' := by
  have K := Lib.hid law29_works
  have hn' : (16 : Int) < (n : Int) := by omega
  go_enter Try.func6, Try.ntmps6
  go_wp2_with fail
  refine (K.out _).mono ?_
  rintro e w1 ⟨rfl, h1⟩
  go_wp2_with fail
  exact bodyPost_ret (v := .bool true) (by simp [results, Try.results6, go_sem]) rfl ⟨rfl, (by repeat (first | exact Below.refl _ _ | assumption | refine bel_drew ?_ | refine bel_drewN ?_ _ | refine bel_alloc ?_ _ | refine bel_set ?_ (by first | (dsimp only; omega) | (simp; done) | (simp; omega)) _ | refine bel_trans ?_ (by assumption)))⟩

set_option maxRecDepth 100000 in
set_option maxHeartbeats 8000000 in
theorem law29_BankMay_some {A : Option Addr} {n : Nat} {l : List PO.Mem} (c : Nat) (f wt a x : Int) (w : World) (h : MemAt w A n l) (hn : n ≤ 16) (b0 : -9223372036854775808 ≤ f ∧ f ≤ 9223372036854775807) (b1 : -9223372036854775808 ≤ wt ∧ wt ≤ 9223372036854775807) (b2 : -9223372036854775808 ≤ a ∧ a ≤ 9223372036854775807) (b3 : -9223372036854775808 ≤ x ∧ x ≤ 9223372036854775807) :
    Calls Try.prog 6 #[.agg #[.int .i64 f, .int .i64 wt], .slice A n c, .agg #[.int .i64 a, .int .i64 x]] w fun e w' => e = .returned (.bool true) ∧ Below w.heap.size w w' := by
  obtain ⟨V, hV⟩ : ∃ V, (w.alloc (.cells #[.int .i64 f, .int .i64 wt] 22)).alloc (.cells #[.int .i64 a, .int .i64 x] 22) = V := ⟨_, rfl⟩
  obtain ⟨bs, hbs⟩ : ∃ bs, w.heap.size = bs := ⟨_, rfl⟩
  have hB : Below w.heap.size w V := by rw [← hV]; exact (by repeat (first | exact Below.refl _ _ | assumption | refine bel_drew ?_ | refine bel_drewN ?_ _ | refine bel_alloc ?_ _ | refine bel_set ?_ (by first | (dsimp only; omega) | (simp; done) | (simp; omega)) _ | refine bel_trans ?_ (by assumption)))
  have hS : Hid (∀ W : World, Below V.heap.size V W → W.cell? ⟨bs, 0, none⟩ = some (.int .i64 f) ∧ W.cell? ⟨bs, 1, none⟩ = some (.int .i64 wt) ∧ W.cell? ⟨bs + 1, 0, none⟩ = some (.int .i64 a) ∧ W.cell? ⟨bs + 1, 1, none⟩ = some (.int .i64 x)) := Lib.hid (fun W hW => by
    have hs : bs + 1 < V.heap.size := by rw [← hV, ← hbs]; simp
    have hs' : bs < V.heap.size := by omega
    exact ⟨(hW.cell hs').trans (by rw [← hV, ← hbs]; simp [go_sem]), (hW.cell hs').trans (by rw [← hV, ← hbs]; simp [go_sem]), (hW.cell hs).trans (by rw [← hV, ← hbs]; simp [go_sem]), (hW.cell hs).trans (by rw [← hV, ← hbs]; simp [go_sem])⟩)
  have hM := h.keep hB
  have hn2 : n ≤ 1000 := by omega
  have K1 : Hid (∀ W, Below V.heap.size V W → Calls Try.prog 21 #[.slice A n c, .int .i64 a, .int .i64 x] W (GivesMem W (PO.after l a x))) := Lib.hid (fun W hW => bank_After c a x (hM.keep hW) hn2 b2 b3)
  have K2 : Hid (∀ W, Below V.heap.size V W → Calls Try.prog 24 #[.slice A n c, .int .i64 a, .int .i64 x] W (GivesMem W (PO.after l a x))) := Lib.hid (fun W hW => ref29_After c a x (hM.keep hW) hn2 b2 b3)
  have K3 : Hid (∀ W, Below V.heap.size V W → Calls Try.prog 20 #[.int .i64 f, .int .i64 wt, .slice A n c, .int .i64 a, .int .i64 x] W fun e W' => e = .returned (.bool (PO.bmay f wt l a x)) ∧ Below W.heap.size W W') := Lib.hid (fun W hW => bank_May c f wt a x (hM.keep hW) hn2 b0 b1 b2 b3)
  have K4 : Hid (∀ W, Below V.heap.size V W → Calls Try.prog 25 #[.int .i64 f, .int .i64 wt, .slice A n c, .int .i64 a, .int .i64 x] W fun e W' => e = .returned (.bool (PO.bmay f wt l a x)) ∧ Below W.heap.size W W') := Lib.hid (fun W hW => ref29_May c f wt a x (hM.keep hW) hn2 b0 b1 b2 b3)
  have K5 : Hid (∀ W, Below V.heap.size V W → Calls Try.prog 28 #[.int .i64 f, .int .i64 wt, .slice A n c, .int .i64 x] W fun e W' => ∃ A' c', e = .returned (.slice A' (which f wt l x n).length c') ∧ IntsAt W' A' (which f wt l x n).length (PO.ints (which f wt l x n)) ∧ Below W.heap.size W W') := Lib.hid (fun W hW => bank_Which c f wt x (hM.keep hW) hn2 b0 b1 b3)
  have K6 : Hid (∀ W, Below V.heap.size V W → Calls Try.prog 29 #[.int .i64 f, .int .i64 wt, .slice A n c, .int .i64 x] W fun e W' => ∃ v, e = .returned v ∧ OwnI W.heap.size W' v (PO.ints (which f wt l x n)) ∧ Below W.heap.size W W') := Lib.hid (fun W hW => ref29_Which c f wt x (hM.keep hW) hn2 b0 b1 b3)
  have hn' : decide ((16 : Int) < (n : Int)) = false := by simp; omega
  have HV := Lib.hid hV
  have HBS := Lib.hid hbs
  have HB := Lib.hid hB
  generalize PO.bmay f wt l a x = r at *
  generalize PO.after l a x = G at *
  obtain ⟨l', q⟩ := G
  generalize which f wt l x n = D at *
  clear h hM hV hbs hB b0 b1 b2 b3
  go_enter Try.func6, Try.ntmps6
  go_wp2_with fail
  rw [HV.out, HBS.out]
  refine (K1.out _ (Below.refl _ _)).mono ?_
  rintro e w1 ⟨A1, n1, c1, rfl, i1, h1⟩
  obtain ⟨p0, p1, p2, p3⟩ := hS.out w1 h1
  have hn1 := i1.1
  replace i1 := Lib.hid i1
  go_wp2_with fail
  refine (K2.out _ h1).mono ?_
  rintro e w2 ⟨A2, n2, c2, rfl, i2, h2⟩
  have b12 := bel_trans h1 h2
  have e12 : n1 = n2 := hn1.symm.trans i2.1
  subst e12
  have HSM : Hid (∀ W, Below w2.heap.size w2 W → Calls Try.prog 26 #[.slice A1 n1 c1, .slice A2 n1 c2] W fun e W' => e = .returned (.bool true) ∧ Below W.heap.size W W') := Lib.hid (fun W hW => base_SameMembers_same c1 c2 (i1.out.keep (bel_trans h2 hW)) (i2.keep hW))
  have hS6 : Hid (∀ W : World, Below w2.heap.size w2 W → (fun W : World => W.cell? ⟨bs, 0, none⟩ = some (.int .i64 f) ∧ W.cell? ⟨bs, 1, none⟩ = some (.int .i64 wt) ∧ W.cell? ⟨bs + 1, 0, none⟩ = some (.int .i64 a) ∧ W.cell? ⟨bs + 1, 1, none⟩ = some (.int .i64 x)) W) := Lib.hid (fun W hW => hS.out W (bel_trans b12 hW))
  clear i2 hn1 p0 p1 p2 p3
  go_wp2_with fail
  refine wp_region_held_drew (S := (fun W : World => W.cell? ⟨bs, 0, none⟩ = some (.int .i64 f) ∧ W.cell? ⟨bs, 1, none⟩ = some (.int .i64 wt) ∧ W.cell? ⟨bs + 1, 0, none⟩ = some (.int .i64 a) ∧ W.cell? ⟨bs + 1, 1, none⟩ = some (.int .i64 x))) (by kernel_rfl) ?_ (fun hHeld => ?_)
  focus ((try dsimp only); exact hS6.out _ (by repeat (first | exact Below.refl _ _ | assumption | refine bel_drew ?_ | refine bel_trans ?_ (by assumption))))
  refine tk_yes 0 (v := ?_) rfl (by kernel_rfl) (by kernel_rfl) (by kernel_rfl) (fun _ _ _ h => h) (by kernel_rfl) (by assumption) ?_ ?_; rotate_left; (focus (intro w hSw; (try dsimp only at hSw); go_simp; (first | done | (with_reducible rfl)))); (try simp only [Act.put, List.setIfInBounds_toArray, List.set_cons_zero, List.set_cons_succ])
  refine tk_yes 1 (v := ?_) rfl (by kernel_rfl) (by kernel_rfl) (by kernel_rfl) (fun _ _ _ h => h) (by kernel_rfl) (by assumption) ?_ ?_; rotate_left; (focus (intro w hSw; (try dsimp only at hSw); go_simp; (first | done | (with_reducible rfl)))); (try simp only [Act.put, List.setIfInBounds_toArray, List.set_cons_zero, List.set_cons_succ])
  refine tk_yes 2 (v := ?_) rfl (by kernel_rfl) (by kernel_rfl) (by kernel_rfl) (fun _ _ _ h => h) (by kernel_rfl) (by assumption) ?_ ?_; rotate_left; (focus (intro w hSw; (try dsimp only at hSw); go_simp; (first | done | (with_reducible rfl)))); (try simp only [Act.put, List.setIfInBounds_toArray, List.set_cons_zero, List.set_cons_succ])
  refine tk_yes 3 (v := ?_) rfl (by kernel_rfl) (by kernel_rfl) (by kernel_rfl) (fun _ _ _ h => h) (by kernel_rfl) (by assumption) ?_ ?_; rotate_left; (focus (intro w hSw; (try dsimp only at hSw); go_simp; (first | done | (with_reducible rfl)))); (try simp only [Act.put, List.setIfInBounds_toArray, List.set_cons_zero, List.set_cons_succ])
  refine tk_yes 4 (v := ?_) rfl (by kernel_rfl) (by kernel_rfl) (by kernel_rfl) (fun _ _ _ h => h) (by kernel_rfl) (by assumption) ?_ ?_; rotate_left; (focus (intro w hSw; (try dsimp only at hSw); go_simp; (first | done | (with_reducible rfl)))); (try simp only [Act.put, List.setIfInBounds_toArray, List.set_cons_zero, List.set_cons_succ])
  refine tk_yes 5 (v := ?_) rfl (by kernel_rfl) (by kernel_rfl) (by kernel_rfl) (fun _ _ _ h => h) (by kernel_rfl) (by assumption) ?_ ?_; rotate_left; (focus (intro w hSw; (try dsimp only at hSw); go_simp; (first | done | (with_reducible rfl)))); (try simp only [Act.put, List.setIfInBounds_toArray, List.set_cons_zero, List.set_cons_succ])
  refine tk_yes 6 (v := ?_) rfl (by kernel_rfl) (by kernel_rfl) (by kernel_rfl) (fun _ _ _ h => h) (by kernel_rfl) (by assumption) ?_ ?_; rotate_left; (focus (intro w hSw; (try dsimp only at hSw); go_simp; (first | done | (with_reducible rfl)))); (try simp only [Act.put, List.setIfInBounds_toArray, List.set_cons_zero, List.set_cons_succ])
  refine tk_yes 7 (v := ?_) rfl (by kernel_rfl) (by kernel_rfl) (by kernel_rfl) (fun _ _ _ h => h) (by kernel_rfl) (by assumption) ?_ ?_; rotate_left; (focus (intro w hSw; (try dsimp only at hSw); go_simp; (first | done | (with_reducible rfl)))); (try simp only [Act.put, List.setIfInBounds_toArray, List.set_cons_zero, List.set_cons_succ])
  refine tk_yes 8 (v := ?_) rfl (by kernel_rfl) (by kernel_rfl) (by kernel_rfl) (fun _ _ _ h => h) (by kernel_rfl) (by assumption) ?_ ?_; rotate_left; (focus (intro w hSw; (try dsimp only at hSw); go_simp; (first | done | (with_reducible rfl)))); (try simp only [Act.put, List.setIfInBounds_toArray, List.set_cons_zero, List.set_cons_succ])
  refine tk_yes 10 (v := ?_) rfl (by kernel_rfl) (by kernel_rfl) (by kernel_rfl) (fun _ _ _ h => h) (by kernel_rfl) (by assumption) ?_ ?_; rotate_left; (focus (intro w hSw; (try dsimp only at hSw); go_simp; (first | done | (with_reducible rfl)))); (try simp only [Act.put, List.setIfInBounds_toArray, List.set_cons_zero, List.set_cons_succ])
  refine tk_yes 11 (v := ?_) rfl (by kernel_rfl) (by kernel_rfl) (by kernel_rfl) (fun _ _ _ h => h) (by kernel_rfl) (by assumption) ?_ ?_; rotate_left; (focus (intro w hSw; (try dsimp only at hSw); go_simp; (first | done | (with_reducible rfl)))); (try simp only [Act.put, List.setIfInBounds_toArray, List.set_cons_zero, List.set_cons_succ])
  refine tk_yes 12 (v := ?_) rfl (by kernel_rfl) (by kernel_rfl) (by kernel_rfl) (fun _ _ _ h => h) (by kernel_rfl) (by assumption) ?_ ?_; rotate_left; (focus (intro w hSw; (try dsimp only at hSw); go_simp; (first | done | (with_reducible rfl)))); (try simp only [Act.put, List.setIfInBounds_toArray, List.set_cons_zero, List.set_cons_succ])
  refine tk_yes 13 (v := ?_) rfl (by kernel_rfl) (by kernel_rfl) (by kernel_rfl) (fun _ _ _ h => h) (by kernel_rfl) (by assumption) ?_ ?_; rotate_left; (focus (intro w hSw; (try dsimp only at hSw); go_simp; (first | done | (with_reducible rfl)))); (try simp only [Act.put, List.setIfInBounds_toArray, List.set_cons_zero, List.set_cons_succ])
  refine tk_yes 14 (v := ?_) rfl (by kernel_rfl) (by kernel_rfl) (by kernel_rfl) (fun _ _ _ h => h) (by kernel_rfl) (by assumption) ?_ ?_; rotate_left; (focus (intro w hSw; (try dsimp only at hSw); go_simp; (first | done | (with_reducible rfl)))); (try simp only [Act.put, List.setIfInBounds_toArray, List.set_cons_zero, List.set_cons_succ])
  refine tk_yes 15 (v := ?_) rfl (by kernel_rfl) (by kernel_rfl) (by kernel_rfl) (fun _ _ _ h => h) (by kernel_rfl) (by assumption) ?_ ?_; rotate_left; (focus (intro w hSw; (try dsimp only at hSw); go_simp; (first | done | (with_reducible rfl)))); (try simp only [Act.put, List.setIfInBounds_toArray, List.set_cons_zero, List.set_cons_succ])
  refine tk_yes 16 (v := ?_) rfl (by kernel_rfl) (by kernel_rfl) (by kernel_rfl) (fun _ _ _ h => h) (by kernel_rfl) (by assumption) ?_ ?_; rotate_left; (focus (intro w hSw; (try dsimp only at hSw); go_simp; (first | done | (with_reducible rfl)))); (try simp only [Act.put, List.setIfInBounds_toArray, List.set_cons_zero, List.set_cons_succ])
  refine tk_yes 17 (v := ?_) rfl (by kernel_rfl) (by kernel_rfl) (by kernel_rfl) (fun _ _ _ h => h) (by kernel_rfl) (by assumption) ?_ ?_; rotate_left; (focus (intro w hSw; (try dsimp only at hSw); go_simp; (first | done | (with_reducible rfl)))); (try simp only [Act.put, List.setIfInBounds_toArray, List.set_cons_zero, List.set_cons_succ])
  refine tk_yes 18 (v := ?_) rfl (by kernel_rfl) (by kernel_rfl) (by kernel_rfl) (fun _ _ _ h => h) (by kernel_rfl) (by assumption) ?_ ?_; rotate_left; (focus (intro w hSw; (try dsimp only at hSw); go_simp; (first | done | (with_reducible rfl)))); (try simp only [Act.put, List.setIfInBounds_toArray, List.set_cons_zero, List.set_cons_succ])
  refine tk_call 9 rfl (by kernel_rfl) (by kernel_rfl) (fun KW hKW => ?_); go_simp; go_at_call 20; refine (K3.out _ (bel_trans b12 (by exact (by repeat (first | exact Below.refl _ _ | assumption | refine bel_drew ?_ | refine bel_trans ?_ (by assumption)))))).mono ?_; rintro e u1 ⟨rfl, d1⟩; have t1 := bel_trans (bel_drew (Below.refl w2.heap.size w2)) d1; refine hKW.out _ _ ?_ (fun hHeld => ?_); (focus ((try dsimp only); exact hS6.out _ (by repeat (first | exact Below.refl _ _ | assumption | refine bel_drew ?_ | refine bel_trans ?_ (by assumption))))); clear hKW KW; (try simp only [Act.put, List.setIfInBounds_toArray, List.set_cons_zero, List.set_cons_succ])
  refine tk_call 19 rfl (by kernel_rfl) (by kernel_rfl) (fun KW hKW => ?_); go_simp; go_at_call 25; refine (K4.out _ (bel_trans b12 t1)).mono ?_; rintro e u2 ⟨rfl, d2⟩; have t2 := bel_trans t1 d2; refine hKW.out _ _ ?_ (fun hHeld => ?_); (focus ((try dsimp only); exact hS6.out _ (by repeat (first | exact Below.refl _ _ | assumption | refine bel_drew ?_ | refine bel_trans ?_ (by assumption))))); clear hKW KW; (try simp only [Act.put, List.setIfInBounds_toArray, List.set_cons_zero, List.set_cons_succ])
  refine tk_yes 20 (v := ?_) rfl (by kernel_rfl) (by kernel_rfl) (by kernel_rfl) (fun _ _ _ h => h) (by kernel_rfl) (by assumption) ?_ ?_; rotate_left; (focus (intro w hSw; (try dsimp only at hSw); go_simp; (first | done | (with_reducible rfl)))); (try simp only [Act.put, List.setIfInBounds_toArray, List.set_cons_zero, List.set_cons_succ])
  refine tk_yes 21 (v := ?_) rfl (by kernel_rfl) (by kernel_rfl) (by kernel_rfl) (fun _ _ _ h => h) (by kernel_rfl) (by assumption) ?_ ?_; rotate_left; (focus (intro w hSw; (try dsimp only at hSw); go_simp; (first | done | (with_reducible rfl)))); (try simp only [Act.put, List.setIfInBounds_toArray, List.set_cons_zero, List.set_cons_succ])
  refine tk_yes 22 (v := ?_) rfl (by kernel_rfl) (by kernel_rfl) (by kernel_rfl) (fun _ _ _ h => h) (by kernel_rfl) (by assumption) ?_ ?_; rotate_left; (focus (intro w hSw; (try dsimp only at hSw); go_simp; (first | done | (with_reducible rfl)))); (try simp only [Act.put, List.setIfInBounds_toArray, List.set_cons_zero, List.set_cons_succ])
  refine tk_yes 23 (v := ?_) rfl (by kernel_rfl) (by kernel_rfl) (by kernel_rfl) (fun _ _ _ h => h) (by kernel_rfl) (by assumption) ?_ ?_; rotate_left; (focus (intro w hSw; (try dsimp only at hSw); go_simp; (first | done | (with_reducible rfl)))); (try simp only [Act.put, List.setIfInBounds_toArray, List.set_cons_zero, List.set_cons_succ])
  refine tk_call 24 rfl (by kernel_rfl) (by kernel_rfl) (fun KW hKW => ?_); go_simp; go_at_call 26; refine (HSM.out _ t2).mono ?_; rintro e u3 ⟨rfl, d3⟩; have t3 := bel_trans t2 d3; refine hKW.out _ _ ?_ (fun hHeld => ?_); (focus ((try dsimp only); exact hS6.out _ (by repeat (first | exact Below.refl _ _ | assumption | refine bel_drew ?_ | refine bel_trans ?_ (by assumption))))); clear hKW KW; (try simp only [Act.put, List.setIfInBounds_toArray, List.set_cons_zero, List.set_cons_succ])
  refine tk_yes 25 (v := ?_) rfl (by kernel_rfl) (by kernel_rfl) (by kernel_rfl) (fun _ _ _ h => h) (by kernel_rfl) (by assumption) ?_ ?_; rotate_left; (focus (intro w hSw; (try dsimp only at hSw); go_simp; (first | done | (with_reducible rfl)))); (try simp only [Act.put, List.setIfInBounds_toArray, List.set_cons_zero, List.set_cons_succ])
  refine tk_yes 26 (v := ?_) rfl (by kernel_rfl) (by kernel_rfl) (by kernel_rfl) (fun _ _ _ h => h) (by kernel_rfl) (by assumption) ?_ ?_; rotate_left; (focus (intro w hSw; (try dsimp only at hSw); go_simp; (first | done | (with_reducible rfl)))); (try simp only [Act.put, List.setIfInBounds_toArray, List.set_cons_zero, List.set_cons_succ])
  refine tk_yes 27 (v := ?_) rfl (by kernel_rfl) (by kernel_rfl) (by kernel_rfl) (fun _ _ _ h => h) (by kernel_rfl) (by assumption) ?_ ?_; rotate_left; (focus (intro w hSw; (try dsimp only at hSw); go_simp; (first | done | (with_reducible rfl)))); (try simp only [Act.put, List.setIfInBounds_toArray, List.set_cons_zero, List.set_cons_succ])
  refine tk_yes 28 (v := ?_) rfl (by kernel_rfl) (by kernel_rfl) (by kernel_rfl) (fun _ _ _ h => h) (by kernel_rfl) (by assumption) ?_ ?_; rotate_left; (focus (intro w hSw; (try dsimp only at hSw); go_simp; (first | done | (with_reducible rfl)))); (try simp only [Act.put, List.setIfInBounds_toArray, List.set_cons_zero, List.set_cons_succ])
  refine tk_yes 29 (v := ?_) rfl (by kernel_rfl) (by kernel_rfl) (by kernel_rfl) (fun _ _ _ h => h) (by kernel_rfl) (by assumption) ?_ ?_; rotate_left; (focus (intro w hSw; (try dsimp only at hSw); go_simp; (first | done | (with_reducible rfl)))); (try simp only [Act.put, List.setIfInBounds_toArray, List.set_cons_zero, List.set_cons_succ])
  refine tk_yes 30 (v := ?_) rfl (by kernel_rfl) (by kernel_rfl) (by kernel_rfl) (fun _ _ _ h => h) (by kernel_rfl) (by assumption) ?_ ?_; rotate_left; (focus (intro w hSw; (try dsimp only at hSw); go_simp; (first | done | (with_reducible rfl)))); (try simp only [Act.put, List.setIfInBounds_toArray, List.set_cons_zero, List.set_cons_succ])
  refine tk_yes 31 (v := ?_) rfl (by kernel_rfl) (by kernel_rfl) (by kernel_rfl) (fun _ _ _ h => h) (by kernel_rfl) (by assumption) ?_ ?_; rotate_left; (focus (intro w hSw; (try dsimp only at hSw); go_simp; (first | done | (with_reducible rfl)))); (try simp only [Act.put, List.setIfInBounds_toArray, List.set_cons_zero, List.set_cons_succ])
  refine tk_yes 32 (v := ?_) rfl (by kernel_rfl) (by kernel_rfl) (by kernel_rfl) (fun _ _ _ h => h) (by kernel_rfl) (by assumption) ?_ ?_; rotate_left; (focus (intro w hSw; (try dsimp only at hSw); go_simp; (first | done | (with_reducible rfl)))); (try simp only [Act.put, List.setIfInBounds_toArray, List.set_cons_zero, List.set_cons_succ])
  refine tk_yes 33 (v := ?_) rfl (by kernel_rfl) (by kernel_rfl) (by kernel_rfl) (fun _ _ _ h => h) (by kernel_rfl) (by assumption) ?_ ?_; rotate_left; (focus (intro w hSw; (try dsimp only at hSw); go_simp; (first | done | (with_reducible rfl)))); (try simp only [Act.put, List.setIfInBounds_toArray, List.set_cons_zero, List.set_cons_succ])
  refine tk_yes 34 (v := ?_) rfl (by kernel_rfl) (by kernel_rfl) (by kernel_rfl) (fun _ _ _ h => h) (by kernel_rfl) (by assumption) ?_ ?_; rotate_left; (focus (intro w hSw; (try dsimp only at hSw); go_simp; (first | done | (with_reducible rfl)))); (try simp only [Act.put, List.setIfInBounds_toArray, List.set_cons_zero, List.set_cons_succ])
  refine tk_yes 35 (v := ?_) rfl (by kernel_rfl) (by kernel_rfl) (by kernel_rfl) (fun _ _ _ h => h) (by kernel_rfl) (by assumption) ?_ ?_; rotate_left; (focus (intro w hSw; (try dsimp only at hSw); go_simp; (first | done | (with_reducible rfl)))); (try simp only [Act.put, List.setIfInBounds_toArray, List.set_cons_zero, List.set_cons_succ])
  refine tk_yes 36 (v := ?_) rfl (by kernel_rfl) (by kernel_rfl) (by kernel_rfl) (fun _ _ _ h => h) (by kernel_rfl) (by assumption) ?_ ?_; rotate_left; (focus (intro w hSw; (try dsimp only at hSw); go_simp; (first | done | (with_reducible rfl)))); (try simp only [Act.put, List.setIfInBounds_toArray, List.set_cons_zero, List.set_cons_succ])
  refine tk_yes 37 (v := ?_) rfl (by kernel_rfl) (by kernel_rfl) (by kernel_rfl) (fun _ _ _ h => h) (by kernel_rfl) (by assumption) ?_ ?_; rotate_left; (focus (intro w hSw; (try dsimp only at hSw); go_simp; (first | done | (with_reducible rfl)))); (try simp only [Act.put, List.setIfInBounds_toArray, List.set_cons_zero, List.set_cons_succ])
  refine tk_yes 38 (v := ?_) rfl (by kernel_rfl) (by kernel_rfl) (by kernel_rfl) (fun _ _ _ h => h) (by kernel_rfl) (by assumption) ?_ ?_; rotate_left; (focus (intro w hSw; (try dsimp only at hSw); go_simp; (first | done | (with_reducible rfl)))); (try simp only [Act.put, List.setIfInBounds_toArray, List.set_cons_zero, List.set_cons_succ])
  refine tk_yes 40 (v := ?_) rfl (by kernel_rfl) (by kernel_rfl) (by kernel_rfl) (fun _ _ _ h => h) (by kernel_rfl) (by assumption) ?_ ?_; rotate_left; (focus (intro w hSw; (try dsimp only at hSw); go_simp; (first | done | (with_reducible rfl)))); (try simp only [Act.put, List.setIfInBounds_toArray, List.set_cons_zero, List.set_cons_succ])
  refine tk_yes 41 (v := ?_) rfl (by kernel_rfl) (by kernel_rfl) (by kernel_rfl) (fun _ _ _ h => h) (by kernel_rfl) (by assumption) ?_ ?_; rotate_left; (focus (intro w hSw; (try dsimp only at hSw); go_simp; (first | done | (with_reducible rfl)))); (try simp only [Act.put, List.setIfInBounds_toArray, List.set_cons_zero, List.set_cons_succ])
  refine tk_yes 42 (v := ?_) rfl (by kernel_rfl) (by kernel_rfl) (by kernel_rfl) (fun _ _ _ h => h) (by kernel_rfl) (by assumption) ?_ ?_; rotate_left; (focus (intro w hSw; (try dsimp only at hSw); go_simp; (first | done | (with_reducible rfl)))); (try simp only [Act.put, List.setIfInBounds_toArray, List.set_cons_zero, List.set_cons_succ])
  refine tk_yes 43 (v := ?_) rfl (by kernel_rfl) (by kernel_rfl) (by kernel_rfl) (fun _ _ _ h => h) (by kernel_rfl) (by assumption) ?_ ?_; rotate_left; (focus (intro w hSw; (try dsimp only at hSw); go_simp; (first | done | (with_reducible rfl)))); (try simp only [Act.put, List.setIfInBounds_toArray, List.set_cons_zero, List.set_cons_succ])
  refine tk_yes 44 (v := ?_) rfl (by kernel_rfl) (by kernel_rfl) (by kernel_rfl) (fun _ _ _ h => h) (by kernel_rfl) (by assumption) ?_ ?_; rotate_left; (focus (intro w hSw; (try dsimp only at hSw); go_simp; (first | done | (with_reducible rfl)))); (try simp only [Act.put, List.setIfInBounds_toArray, List.set_cons_zero, List.set_cons_succ])
  refine tk_yes 45 (v := ?_) rfl (by kernel_rfl) (by kernel_rfl) (by kernel_rfl) (fun _ _ _ h => h) (by kernel_rfl) (by assumption) ?_ ?_; rotate_left; (focus (intro w hSw; (try dsimp only at hSw); go_simp; (first | done | (with_reducible rfl)))); (try simp only [Act.put, List.setIfInBounds_toArray, List.set_cons_zero, List.set_cons_succ])
  refine tk_yes 46 (v := ?_) rfl (by kernel_rfl) (by kernel_rfl) (by kernel_rfl) (fun _ _ _ h => h) (by kernel_rfl) (by assumption) ?_ ?_; rotate_left; (focus (intro w hSw; (try dsimp only at hSw); go_simp; (first | done | (with_reducible rfl)))); (try simp only [Act.put, List.setIfInBounds_toArray, List.set_cons_zero, List.set_cons_succ])
  refine tk_call 39 rfl (by kernel_rfl) (by kernel_rfl) (fun KW hKW => ?_); go_simp; go_at_call 28; refine (K5.out _ (bel_trans b12 t3)).mono ?_; rintro e u4 ⟨A4, c4, rfl, i4, d4⟩; have t4 := bel_trans t3 d4; replace i4 := Lib.hid i4; refine hKW.out _ _ ?_ (fun hHeld => ?_); (focus ((try dsimp only); exact hS6.out _ (by repeat (first | exact Below.refl _ _ | assumption | refine bel_drew ?_ | refine bel_trans ?_ (by assumption))))); clear hKW KW; (try simp only [Act.put, List.setIfInBounds_toArray, List.set_cons_zero, List.set_cons_succ])
  refine tk_call 47 rfl (by kernel_rfl) (by kernel_rfl) (fun KW hKW => ?_); go_simp; go_at_call 29; refine (K6.out _ (bel_trans b12 t4)).mono ?_; rintro e u5 ⟨v5, rfl, o5, d5⟩; obtain ⟨A5, c5, rfl, i5⟩ := o5.slice; have t5 := bel_trans t4 d5; have KS := Lib.hid (same_ints_refl c4 c5 (i4.out.keep d5) i5); clear o5 i5; refine hKW.out _ _ ?_ (fun hHeld => ?_); (focus ((try dsimp only); exact hS6.out _ (by repeat (first | exact Below.refl _ _ | assumption | refine bel_drew ?_ | refine bel_trans ?_ (by assumption))))); clear hKW KW; (try simp only [Act.put, List.setIfInBounds_toArray, List.set_cons_zero, List.set_cons_succ])
  refine tk_call 48 rfl (by kernel_rfl) (by kernel_rfl) (fun KW hKW => ?_); go_simp; go_at_call 27; refine KS.out.mono ?_; rintro e u6 ⟨rfl, d6⟩; have t6 := bel_trans t5 d6; refine hKW.out _ _ ?_ (fun hHeld => ?_); (focus ((try dsimp only); exact hS6.out _ (by repeat (first | exact Below.refl _ _ | assumption | refine bel_drew ?_ | refine bel_trans ?_ (by assumption))))); clear hKW KW; (try simp only [Act.put, List.setIfInBounds_toArray, List.set_cons_zero, List.set_cons_succ])
  refine tk_yes 49 (v := ?_) rfl (by kernel_rfl) (by kernel_rfl) (by kernel_rfl) (fun _ _ _ h => h) (by kernel_rfl) (by assumption) ?_ ?_; rotate_left; (focus (intro w hSw; (try dsimp only at hSw); go_simp; (first | done | (with_reducible rfl)))); (try simp only [Act.put, List.setIfInBounds_toArray, List.set_cons_zero, List.set_cons_succ])
  refine tk_yes 50 (v := ?_) rfl (by kernel_rfl) (by kernel_rfl) (by kernel_rfl) (fun _ _ _ h => h) (by kernel_rfl) (by assumption) ?_ ?_; rotate_left; (focus (intro w hSw; (try dsimp only at hSw); go_simp; (first | done | (with_reducible rfl)))); (try simp only [Act.put, List.setIfInBounds_toArray, List.set_cons_zero, List.set_cons_succ])
  refine tk_call 51 rfl (by kernel_rfl) (by kernel_rfl) (fun KW hKW => ?_); go_simp; go_at_call 16; refine (law29_works _).mono ?_; rintro e u7 ⟨rfl, d7⟩; have t7 := bel_trans t6 d7; refine hKW.out _ _ ?_ (fun hHeld => ?_); (focus ((try dsimp only); exact hS6.out _ (by repeat (first | exact Below.refl _ _ | assumption | refine bel_drew ?_ | refine bel_trans ?_ (by assumption))))); clear hKW KW; (try simp only [Act.put, List.setIfInBounds_toArray, List.set_cons_zero, List.set_cons_succ])
  refine tk_yes 52 (v := ?_) rfl (by kernel_rfl) (by kernel_rfl) (by kernel_rfl) (fun _ _ _ h => h) (by kernel_rfl) (by assumption) ?_ ?_; rotate_left; (focus (intro w hSw; (try dsimp only at hSw); go_simp; (first | done | (with_reducible rfl)))); (try simp only [Act.put, List.setIfInBounds_toArray, List.set_cons_zero, List.set_cons_succ])
  refine tk_yes 53 (v := ?_) rfl (by kernel_rfl) (by kernel_rfl) (by kernel_rfl) (fun _ _ _ h => h) (by kernel_rfl) (by assumption) ?_ ?_; rotate_left; (focus (intro w hSw; (try dsimp only at hSw); go_simp; (first | done | (with_reducible rfl)))); (try simp only [Act.put, List.setIfInBounds_toArray, List.set_cons_zero, List.set_cons_succ])
  refine wpAnyH_done (by kernel_rfl) ?_ _
  go_wp2_with fail
  exact bodyPost_ret (v := .bool true) (by simp [results, Try.results6, go_sem]) rfl ⟨rfl, bel_trans' HB.out (bel_trans b12 t7) HB.out.size⟩

theorem law29_BankMay {A : Option Addr} {n : Nat} {l : List PO.Mem} (c : Nat) (f wt a x : Int) (w : World) (h : MemAt w A n l) (b0 : -9223372036854775808 ≤ f ∧ f ≤ 9223372036854775807) (b1 : -9223372036854775808 ≤ wt ∧ wt ≤ 9223372036854775807) (b2 : -9223372036854775808 ≤ a ∧ a ≤ 9223372036854775807) (b3 : -9223372036854775808 ≤ x ∧ x ≤ 9223372036854775807) :
    Calls Try.prog 6 #[.agg #[.int .i64 f, .int .i64 wt], .slice A n c, .agg #[.int .i64 a, .int .i64 x]] w fun e w' => e = .returned (.bool true) ∧ Below w.heap.size w w' := by
  rcases Nat.lt_or_ge 16 n with hn | hn
  · exact law29_BankMay_long A n c f wt a x w hn
  · exact law29_BankMay_some c f wt a x w h hn b0 b1 b2 b3
end Go.Proofs.Ythmjbfocpdiikaa
/-
  Plain: which ticket may go.
-/
namespace Go.Proofs.Ythmjbfocpdiikaa
set_option linter.unusedVariables false
namespace SK
open PO
/-- ID, client, count, state, passed -/
abbrev Tick := Int × Int × Int × Int × Int
def t0 : Tick := (0, 0, 0, 0, 0)
def cl (ts : List Tick) (i : Nat) : Int := (ts.getD i t0).2.1
def member (ms : List Mem) (id : Int) : Int := idx (fun m => decide (m.1 = id)) ms
def ahead (ts : List Tick) (k : Nat) : Bool := (ts.take k).any (fun t => decide (t.2.1 = cl ts k))
/-- What keeps a ticket from going; 0: nothing. -/
def why (ts : List Tick) (ms : List Mem) (f w a : Int) : Int :=
  if a < 0 ∨ (ts.length : Int) ≤ a then 1
  else if member ms (cl ts a.toNat) < 0 then 2
  else if ahead ts a.toNat = true then 3
  else if bmay f w ms (member ms (cl ts a.toNat)) (ts.getD a.toNat t0).2.2.1 = false then 4
  else if 0 < a ∧ (ms.getD (member ms (cl ts a.toNat)).toNat m0).2.2.1 = 0 ∧ 8 ≤ (ts.getD 0 t0).2.2.2.2 then 5
  else 0
theorem idx_lt {p : Mem → Bool} {l : List Mem} (h : 0 ≤ idx p l) : ∃ k : Nat, idx p l = k ∧ k < l.length := by
  unfold idx at h ⊢
  rcases e : l.findIdx? p with _ | i
  · rw [e] at h; simp at h
  · rw [List.findIdx?_eq_some_iff_getElem] at e
    exact ⟨i, rfl, e.1⟩
theorem idx_bd (p : Mem → Bool) (l : List Mem) : -1 ≤ idx p l ∧ idx p l < max 1 (l.length : Int) := by
  by_cases h : 0 ≤ idx p l
  · obtain ⟨k, e, hk⟩ := idx_lt h
    omega
  · unfold idx at h ⊢
    rcases e : l.findIdx? p with _ | i
    · simp; omega
    · rw [e] at h; simp at h
end SK
end Go.Proofs.Ythmjbfocpdiikaa
/-
  Tickets in memory; skip.asked.member.
-/
namespace Go.Proofs.Ythmjbfocpdiikaa
open Go.RowKit
set_option linter.unusedVariables false
set_option linter.unusedSimpArgs false
attribute [local go_sem] drewN_alloc drewN_setCell

def TickBd (t : SK.Tick) : Prop := Bd t.1 ∧ Bd t.2.1 ∧ Bd t.2.2.1 ∧ Bd t.2.2.2.1 ∧ Bd t.2.2.2.2
def TickCells (w : World) (b off : Nat) (t : SK.Tick) : Prop :=
  w.cell? ⟨b, off, none⟩ = some (.int .i64 t.1) ∧ w.cell? ⟨b, off + 1, none⟩ = some (.int .i64 t.2.1) ∧ w.cell? ⟨b, off + 2, none⟩ = some (.int .i64 t.2.2.1) ∧ w.cell? ⟨b, off + 3, none⟩ = some (.int .i64 t.2.2.2.1) ∧ w.cell? ⟨b, off + 4, none⟩ = some (.int .i64 t.2.2.2.2)
theorem TickCells.keep {B : Nat} {w w' : World} {b off : Nat} {t : SK.Tick} (h : TickCells w b off t) (k : Below B w w') (hb : b < B) : TickCells w' b off t :=
  ⟨(k.cell hb).trans h.1, (k.cell hb).trans h.2.1, (k.cell hb).trans h.2.2.1, (k.cell hb).trans h.2.2.2.1, (k.cell hb).trans h.2.2.2.2⟩
/-- The slice value of length n at A reads as the tickets l. -/
def TickAt (w : World) (A : Option Addr) (n : Nat) (l : List SK.Tick) : Prop :=
  l.length = n ∧ n ≤ 9223372036854775807 ∧ (∀ t ∈ l, TickBd t) ∧ (0 < n → ∃ b off, A = some ⟨b, off, none⟩ ∧ b < w.heap.size ∧ ∀ i, i < n → TickCells w b (off + i * 5) (l.getD i SK.t0))
theorem TickAt.keep {w w' : World} {A : Option Addr} {n : Nat} {l : List SK.Tick} (h : TickAt w A n l) (k : Below w.heap.size w w') : TickAt w' A n l :=
  ⟨h.1, h.2.1, h.2.2.1, fun hn => by
    obtain ⟨b, off, e, hb, hc⟩ := h.2.2.2 hn
    exact ⟨b, off, e, Nat.lt_of_lt_of_le hb k.size, fun i hi => (hc i hi).keep k hb⟩⟩
theorem TickAt.nil {w : World} {A : Option Addr} : TickAt w A 0 [] := ⟨rfl, by omega, fun _ h => by simp at h, fun h => absurd h (by omega)⟩
theorem tick_getD {l : List SK.Tick} {k : Nat} (hk : k < l.length) : l.getD k SK.t0 = l[k] := by simp [List.getD, hk]
theorem TickAt.bd {w : World} {A : Option Addr} {n : Nat} {l : List SK.Tick} (h : TickAt w A n l) {k : Nat} (hk : k < n) : TickBd (l.getD k SK.t0) := by
  rw [tick_getD (by have := h.1; omega)]
  exact h.2.2.1 _ (List.getElem_mem _)

set_option maxHeartbeats 2000000 in
theorem skip_member1 {TA : Option Addr} {tn : Nat} {ts : List SK.Tick} (tc p k : Nat) (m : PO.Mem) {w : World} (h : TickAt w TA tn ts) (hk : k < tn)
    (c0 : w.cell? ⟨p, 0, none⟩ = some (.slice TA tn tc)) (c4 : w.cell? ⟨p + 1, 0, none⟩ = some (.int .i64 (k : Int))) :
    Calls Try.prog 96 #[.agg #[.int .i64 m.1, .int .i64 m.2.1, .int .i64 m.2.2.1, .int .i64 m.2.2.2], .pointer (some ⟨p, 0, none⟩), .pointer (some ⟨p + 1, 0, none⟩)] w fun e w' => e = .returned (.bool (decide (m.1 = SK.cl ts k))) ∧ Below w.heap.size w w' := by
  obtain ⟨b, off, rfl, hb, hc⟩ := h.2.2.2 (by omega)
  obtain ⟨x0, x1, x2, x3, x4⟩ := hc k hk
  have e : SK.cl ts k = (ts.getD k SK.t0).2.1 := rfl
  rw [e]
  generalize ts.getD k SK.t0 = t at *
  have hn := h.2.1
  have j0 : (0 : Int) ≤ (k : Int) := by omega
  have j1 : (k : Int) < (tn : Int) := by omega
  have sp := World.block_lt_of_cell? _ _ c0
  have sp1 := World.block_lt_of_cell? _ _ c4
  dsimp only at sp sp1
  obtain ⟨V, hV⟩ : ∃ V, w.alloc (.cells #[.int .i64 m.1, .int .i64 m.2.1, .int .i64 m.2.2.1, .int .i64 m.2.2.2] 34) = V := ⟨_, rfl⟩
  have hbV : Below w.heap.size w V := by rw [← hV]; exact (by repeat (first | exact Below.refl _ _ | assumption | refine bel_drew ?_ | refine bel_drewN ?_ _ | refine bel_alloc ?_ _ | refine bel_set ?_ (by first | (dsimp only; omega) | (simp; done) | (simp; omega)) _ | refine bel_trans ?_ (by assumption)))
  have d0 := (hbV.cell (p := ⟨p, 0, none⟩) sp).trans c0
  have d4 := (hbV.cell (p := ⟨p + 1, 0, none⟩) sp1).trans c4
  have d1 := (hbV.cell (p := ⟨b, off + k * 5 + 1, none⟩) hb).trans x1
  have dm : V.cell? ⟨w.heap.size, 0, none⟩ = some (.int .i64 m.1) := by rw [← hV]; simp [go_sem]
  replace hV := Lib.hid hV
  clear x0 x1 x2 x3 x4 hc h c0 c4 e
  go_enter Try.func96, Try.ntmps96
  go_wp2_with fail
  rw [hV.out]
  go_quiet (fail)
  go_wp2_with fail
  exact bodyPost_ret (v := .bool (m.1 == t.2.1)) (by simp [results, Try.results96, go_sem]) rfl ⟨ret_bool (by rw [Bool.eq_iff_iff]; simp), bel_drewN hbV nq⟩

set_option maxHeartbeats 2000000 in
theorem skip_member {TA MA : Option Addr} {tn mn : Nat} {ts : List SK.Tick} {ms : List PO.Mem} (tc mc k : Nat) (f wt : Int) {w : World} (h : TickAt w TA tn ts) (hm : MemAt w MA mn ms) (hk : k < tn) :
    Calls Try.prog 82 #[.agg #[.slice TA tn tc, .slice MA mn mc, .int .i64 f, .int .i64 wt], .int .i64 (k : Int)] w fun e w' => e = .returned (.int .i64 (SK.member ms (SK.cl ts k))) ∧ Below w.heap.size w w' := by
  obtain ⟨p, hp⟩ : ∃ p, w.heap.size = p := ⟨_, rfl⟩
  obtain ⟨V, hV⟩ : ∃ V, (w.alloc (.cells #[.slice TA tn tc, .slice MA mn mc, .int .i64 f, .int .i64 wt] 79)).alloc (.cells #[.int .i64 (k : Int)] 3) = V := ⟨_, rfl⟩
  have hbV : Below w.heap.size w V := by rw [← hV]; exact (by repeat (first | exact Below.refl _ _ | assumption | refine bel_drew ?_ | refine bel_drewN ?_ _ | refine bel_alloc ?_ _ | refine bel_set ?_ (by first | (dsimp only; omega) | (simp; done) | (simp; omega)) _ | refine bel_trans ?_ (by assumption)))
  have sV : p + 1 < V.heap.size := by rw [← hV, ← hp]; simp
  have c0 : V.cell? ⟨p, 0, none⟩ = some (.slice TA tn tc) := by rw [← hV, ← hp]; simp [go_sem]
  have c1 : V.cell? ⟨p, 1, none⟩ = some (.slice MA mn mc) := by rw [← hV, ← hp]; simp [go_sem]
  have c4 : V.cell? ⟨p + 1, 0, none⟩ = some (.int .i64 (k : Int)) := by rw [← hV, ← hp]; simp [go_sem]
  have hT := h.keep hbV
  have K := Lib.hid (mem_IndexFunc mc 96 #[.pointer (some ⟨p, 0, none⟩), .pointer (some ⟨p + 1, 0, none⟩)] (fun m => decide (m.1 = SK.cl ts k)) (hm.keep hbV) (fun args w => by simp [go_sem]) (fun m X hX _ => skip_member1 tc p k m (hT.keep hX) hk ((hX.cell (p := ⟨p, 0, none⟩) (by dsimp only; omega)).trans c0) ((hX.cell (p := ⟨p + 1, 0, none⟩) (by dsimp only; omega)).trans c4)))
  have e : SK.member ms (SK.cl ts k) = PO.idx (fun m => decide (m.1 = SK.cl ts k)) ms := rfl
  rw [e]
  generalize PO.idx (fun m => decide (m.1 = SK.cl ts k)) ms = r at *
  have HV := Lib.hid hV
  have HP := Lib.hid hp
  have HB := Lib.hid hbV
  clear hT h hm c0 c4 e hV hp hbV
  go_enter Try.func82, Try.ntmps82
  go_wp2_with fail
  rw [HV.out, HP.out]
  refine K.out.mono ?_
  rintro e w1 ⟨rfl, h1⟩
  go_wp2_with fail
  exact bodyPost_ret (v := .int .i64 r) (by simp [results, Try.results82, go_sem]) rfl ⟨rfl, bel_trans' HB.out h1 HB.out.size⟩
end Go.Proofs.Ythmjbfocpdiikaa
/-
  slices.ContainsFunc over tickets; the first three of skip.reasons.
-/
namespace Go.Proofs.Ythmjbfocpdiikaa
open Go.RowKit
set_option linter.unusedVariables false
set_option linter.unusedSimpArgs false
attribute [local go_sem] drewN_alloc drewN_setCell

def tidx (p : SK.Tick → Bool) (l : List SK.Tick) : Int := match l.findIdx? p with | some i => (i : Int) | none => -1
theorem tidx_at {p : SK.Tick → Bool} {l : List SK.Tick} {k : Nat} (hk : k < l.length) (hn : ∀ j, j < k → p (l.getD j SK.t0) = false) (h : p (l.getD k SK.t0) = true) : tidx p l = k := by
  unfold tidx
  have : l.findIdx? p = some k := by
    rw [List.findIdx?_eq_some_iff_getElem]
    refine ⟨hk, by rw [← tick_getD hk]; exact h, fun j hj => ?_⟩
    have := hn j hj
    rw [tick_getD (show j < l.length by omega)] at this
    simp [this]
  rw [this]
theorem tidx_none {p : SK.Tick → Bool} {l : List SK.Tick} (hn : ∀ j, j < l.length → p (l.getD j SK.t0) = false) : tidx p l = -1 := by
  unfold tidx
  rw [List.findIdx?_eq_none_iff.2]
  intro m hm
  obtain ⟨j, hj, rfl⟩ := List.mem_iff_getElem.1 hm
  have := hn j hj
  rwa [tick_getD hj] at this
theorem tidx_ge (p : SK.Tick → Bool) (l : List SK.Tick) : decide (0 ≤ tidx p l) = l.any p := by
  unfold tidx
  rcases h : l.findIdx? p with _ | i
  · rw [List.findIdx?_eq_none_iff] at h
    have : l.any p = false := by simpa using h
    rw [this]; rfl
  · rw [List.findIdx?_eq_some_iff_getElem] at h
    obtain ⟨hi, hp, _⟩ := h
    have : l.any p = true := List.any_eq_true.2 ⟨_, List.getElem_mem hi, hp⟩
    rw [this]; simp
def TIdxRel (w : World) (p : SK.Tick → Bool) (l : List SK.Tick) (n : Nat) (i : Value) (wr : World) : Prop :=
  ∃ k : Nat, k ≤ n ∧ i = .int .i64 k ∧ (∀ j, j < k → p (l.getD j SK.t0) = false) ∧ Below w.heap.size w wr

set_option maxHeartbeats 4000000 in
theorem tick_IndexFunc {A : Option Addr} {n : Nat} {l : List SK.Tick} (c g : Nat) (lb : Array Value) (p : SK.Tick → Bool) {w : World} (h : TickAt w A n l)
    (eg : ∀ args w, (callFunc g args).run Try.prog w = .ok (.enter g args) w)
    (hp : ∀ m W, Below w.heap.size w W → TickBd m → Calls Try.prog g (#[.agg #[.int .i64 m.1, .int .i64 m.2.1, .int .i64 m.2.2.1, .int .i64 m.2.2.2.1, .int .i64 m.2.2.2.2]] ++ lb) W fun e w' => e = .returned (.bool (p m)) ∧ Below W.heap.size W w') :
    Calls Try.prog 97 #[.slice A n c, .func (.func g) #[] lb] w fun e w' => e = .returned (.int .i64 (tidx p l)) ∧ Below w.heap.size w w' := by
  obtain ⟨R, hR⟩ : ∃ R, tidx p l = R := ⟨_, rfl⟩
  rw [hR]
  have HR := Lib.hid hR
  have HX := Lib.hid h.1
  have HN := h.2.1
  have HB := Lib.hid (fun k (hk : k < n) => h.bd hk)
  have HC := Lib.hid h.2.2.2
  have HP := Lib.hid hp
  have hcf : ∀ m w, (callFunc g (#[m] ++ lb)).run Try.prog w = .ok (.enter g (#[m] ++ lb)) w := fun m w => eg _ w
  clear hR h hp
  go_enter Try.func97, Try.ntmps97
  go_wp2_with fail
  go_loopw [8] (fun i wr => TIdxRel w p l n i wr) (fun i _ => n - (intOf i).toNat)
  case atStart => exact ⟨0, Nat.zero_le _, rfl, fun j hj => absurd hj (by omega), Below.refl _ _⟩
  case round =>
    obtain ⟨k, hk, rfl, hnot, hbel⟩ := hrel
    have HNOT := Lib.hid hnot
    clear hnot
    have j1 : (0 : Int) ≤ (k : Int) := by omega
    by_cases hlt : (k : Int) < n
    · obtain ⟨b, off, rfl, hb, hcs⟩ := HC.out (by omega)
      obtain ⟨x0, x1, x2, x3, x4⟩ := (hcs k (by omega)).keep hbel hb
      have bd := HB.out k (by omega)
      obtain ⟨m, hm⟩ : ∃ m, l.getD k SK.t0 = m := ⟨_, rfl⟩
      rw [hm] at x0 x1 x2 x3 x4 bd
      have KP := Lib.hid (HP.out m wr hbel bd)
      have HM := Lib.hid hm
      clear hm hcs bd
      rcases hq : p m with _ | _
      · rw [hq] at KP
        have HE : Hid (∀ j, j < k + 1 → p (l.getD j SK.t0) = false) := Lib.hid (fun j hj => by
          rcases Nat.lt_or_ge j k with h1 | h1
          · exact HNOT.out j h1
          · obtain rfl : j = k := by omega
            rw [HM.out]; exact hq)
        clear hq
        go_wp2_with fail
        refine KP.out.mono ?_
        rintro e w1 ⟨rfl, h1⟩
        go_wp2_with fail
        go_roundw
        case rel => exact ⟨k + 1, by omega, by go_num, HE.out, (by repeat (first | exact Below.refl _ _ | assumption | refine bel_drew ?_ | refine bel_drewN ?_ _ | refine bel_alloc ?_ _ | refine bel_set ?_ (by first | (dsimp only; omega) | (simp; done) | (simp; omega)) _ | refine bel_trans ?_ (by assumption)))⟩
        case measure => simp [intOf]; omega
      · rw [hq] at KP
        have HE : Hid ((k : Int) = R) := Lib.hid ((tidx_at (by rw [HX.out]; omega) HNOT.out (by rw [HM.out]; exact hq)).symm.trans HR.out)
        clear hq
        go_wp2_with fail
        refine KP.out.mono ?_
        rintro e w1 ⟨rfl, h1⟩
        go_wp2_with fail
        go_ret
        exact ⟨ret_int HE.out, (by repeat (first | exact Below.refl _ _ | assumption | refine bel_drew ?_ | refine bel_drewN ?_ _ | refine bel_alloc ?_ _ | refine bel_set ?_ (by first | (dsimp only; omega) | (simp; done) | (simp; omega)) _ | refine bel_trans ?_ (by assumption)))⟩
    · have HE : Hid ((-1 : Int) = R) := Lib.hid ((tidx_none (fun j hj => HNOT.out j (by rw [HX.out] at hj; omega))).symm.trans HR.out)
      go_wp2_with fail
      go_ret
      exact ⟨ret_int HE.out, (by repeat (first | exact Below.refl _ _ | assumption | refine bel_drew ?_ | refine bel_drewN ?_ _ | refine bel_alloc ?_ _ | refine bel_set ?_ (by first | (dsimp only; omega) | (simp; done) | (simp; omega)) _ | refine bel_trans ?_ (by assumption)))⟩
theorem tick_ContainsFunc {A : Option Addr} {n : Nat} {l : List SK.Tick} (c g : Nat) (lb : Array Value) (p : SK.Tick → Bool) {w : World} (h : TickAt w A n l)
    (eg : ∀ args w, (callFunc g args).run Try.prog w = .ok (.enter g args) w)
    (hp : ∀ m W, Below w.heap.size w W → TickBd m → Calls Try.prog g (#[.agg #[.int .i64 m.1, .int .i64 m.2.1, .int .i64 m.2.2.1, .int .i64 m.2.2.2.1, .int .i64 m.2.2.2.2]] ++ lb) W fun e w' => e = .returned (.bool (p m)) ∧ Below W.heap.size W w') :
    Calls Try.prog 85 #[.slice A n c, .func (.func g) #[] lb] w fun e w' => e = .returned (.bool (l.any p)) ∧ Below w.heap.size w w' := by
  have K := tick_IndexFunc c g lb p h eg hp
  rw [← tidx_ge]
  generalize tidx p l = x at *
  replace K := Lib.hid K
  clear h hp
  go_enter Try.func85, Try.ntmps85
  go_wp2_with fail
  refine K.out.mono ?_
  rintro e w1 ⟨rfl, h1⟩
  go_wp2_with fail
  exact bodyPost_ret (v := .bool (decide (0 ≤ x))) (by simp [results, Try.results85, go_sem]) rfl ⟨rfl, (by repeat (first | exact Below.refl _ _ | assumption | refine bel_drew ?_ | refine bel_drewN ?_ _ | refine bel_alloc ?_ _ | refine bel_set ?_ (by first | (dsimp only; omega) | (simp; done) | (simp; omega)) _ | refine bel_trans ?_ (by assumption)))⟩

theorem reason1 (TA MA : Option Addr) (tn tc mn mc : Nat) (f wt a : Int) (w : World) :
    Calls Try.prog 80 #[.agg #[.slice TA tn tc, .slice MA mn mc, .int .i64 f, .int .i64 wt], .int .i64 a] w fun e w' => e = .returned (.bool (decide (a < 0 ∨ (tn : Int) ≤ a))) ∧ Below w.heap.size w w' := by
  by_cases h0 : a < 0
  · have g0 : decide (a < 0) = true := decide_eq_true h0
    have e : decide (a < 0 ∨ (tn : Int) ≤ a) = true := decide_eq_true (.inl h0)
    rw [e]
    go_enter Try.func80, Try.ntmps80
    go_wp2_with fail
    exact bodyPost_ret (v := .bool true) (by simp [results, Try.results80, go_sem]) rfl ⟨rfl, (by repeat (first | exact Below.refl _ _ | assumption | refine bel_drew ?_ | refine bel_drewN ?_ _ | refine bel_alloc ?_ _ | refine bel_set ?_ (by first | (dsimp only; omega) | (simp; done) | (simp; omega)) _ | refine bel_trans ?_ (by assumption)))⟩
  · have g0 : decide (a < 0) = false := decide_eq_false h0
    have e : decide (a < 0 ∨ (tn : Int) ≤ a) = decide ((tn : Int) ≤ a) := by simp [h0]
    rw [e]
    go_enter Try.func80, Try.ntmps80
    go_wp2_with fail
    exact bodyPost_ret (v := .bool (decide ((tn : Int) ≤ a))) (by simp [results, Try.results80, go_sem]) rfl ⟨rfl, (by repeat (first | exact Below.refl _ _ | assumption | refine bel_drew ?_ | refine bel_drewN ?_ _ | refine bel_alloc ?_ _ | refine bel_set ?_ (by first | (dsimp only; omega) | (simp; done) | (simp; omega)) _ | refine bel_trans ?_ (by assumption)))⟩
set_option maxHeartbeats 2000000 in
theorem reason2 {TA MA : Option Addr} {tn mn : Nat} {ts : List SK.Tick} {ms : List PO.Mem} (tc mc k : Nat) (f wt : Int) {w : World} (h : TickAt w TA tn ts) (hm : MemAt w MA mn ms) (hk : k < tn) :
    Calls Try.prog 81 #[.agg #[.slice TA tn tc, .slice MA mn mc, .int .i64 f, .int .i64 wt], .int .i64 (k : Int)] w fun e w' => e = .returned (.bool (decide (SK.member ms (SK.cl ts k) < 0))) ∧ Below w.heap.size w w' := by
  have K : Hid (∀ W, Below w.heap.size w W → Calls Try.prog 82 #[.agg #[.slice TA tn tc, .slice MA mn mc, .int .i64 f, .int .i64 wt], .int .i64 (k : Int)] W fun e w' => e = .returned (.int .i64 (SK.member ms (SK.cl ts k))) ∧ Below W.heap.size W w') := Lib.hid (fun W hW => skip_member tc mc k f wt (h.keep hW) (hm.keep hW) hk)
  generalize SK.member ms (SK.cl ts k) = r at *
  clear h hm
  go_enter Try.func81, Try.ntmps81
  go_wp2_with fail
  refine (K.out _ (by exact (by repeat (first | exact Below.refl _ _ | assumption | refine bel_drew ?_ | refine bel_drewN ?_ _ | refine bel_alloc ?_ _ | refine bel_set ?_ (by first | (dsimp only; omega) | (simp; done) | (simp; omega)) _ | refine bel_trans ?_ (by assumption))))).mono ?_
  rintro e w1 ⟨rfl, h1⟩
  go_wp2_with fail
  exact bodyPost_ret (v := .bool (decide (r < 0))) (by simp [results, Try.results81, go_sem]) rfl ⟨rfl, (by repeat (first | exact Below.refl _ _ | assumption | refine bel_drew ?_ | refine bel_drewN ?_ _ | refine bel_alloc ?_ _ | refine bel_set ?_ (by first | (dsimp only; omega) | (simp; done) | (simp; omega)) _ | refine bel_trans ?_ (by assumption)))⟩

set_option maxHeartbeats 2000000 in
theorem reason31 {TA : Option Addr} {tn : Nat} {ts : List SK.Tick} (tc p k : Nat) (m : SK.Tick) {w : World} (h : TickAt w TA tn ts) (hk : k < tn)
    (c0 : w.cell? ⟨p, 0, none⟩ = some (.slice TA tn tc)) (c4 : w.cell? ⟨p + 1, 0, none⟩ = some (.int .i64 (k : Int))) :
    Calls Try.prog 84 #[.agg #[.int .i64 m.1, .int .i64 m.2.1, .int .i64 m.2.2.1, .int .i64 m.2.2.2.1, .int .i64 m.2.2.2.2], .pointer (some ⟨p, 0, none⟩), .pointer (some ⟨p + 1, 0, none⟩)] w fun e w' => e = .returned (.bool (decide (m.2.1 = SK.cl ts k))) ∧ Below w.heap.size w w' := by
  obtain ⟨b, off, rfl, hb, hc⟩ := h.2.2.2 (by omega)
  obtain ⟨x0, x1, x2, x3, x4⟩ := hc k hk
  have e : SK.cl ts k = (ts.getD k SK.t0).2.1 := rfl
  rw [e]
  generalize ts.getD k SK.t0 = t at *
  have hn := h.2.1
  have j0 : (0 : Int) ≤ (k : Int) := by omega
  have j1 : (k : Int) < (tn : Int) := by omega
  have sp := World.block_lt_of_cell? _ _ c0
  have sp1 := World.block_lt_of_cell? _ _ c4
  dsimp only at sp sp1
  obtain ⟨V, hV⟩ : ∃ V, w.alloc (.cells #[.int .i64 m.1, .int .i64 m.2.1, .int .i64 m.2.2.1, .int .i64 m.2.2.2.1, .int .i64 m.2.2.2.2] 51) = V := ⟨_, rfl⟩
  have hbV : Below w.heap.size w V := by rw [← hV]; exact (by repeat (first | exact Below.refl _ _ | assumption | refine bel_drew ?_ | refine bel_drewN ?_ _ | refine bel_alloc ?_ _ | refine bel_set ?_ (by first | (dsimp only; omega) | (simp; done) | (simp; omega)) _ | refine bel_trans ?_ (by assumption)))
  have d0 := (hbV.cell (p := ⟨p, 0, none⟩) sp).trans c0
  have d4 := (hbV.cell (p := ⟨p + 1, 0, none⟩) sp1).trans c4
  have d1 := (hbV.cell (p := ⟨b, off + k * 5 + 1, none⟩) hb).trans x1
  have dm : V.cell? ⟨w.heap.size, 1, none⟩ = some (.int .i64 m.2.1) := by rw [← hV]; simp [go_sem]
  replace hV := Lib.hid hV
  clear x0 x1 x2 x3 x4 hc h c0 c4 e
  go_enter Try.func84, Try.ntmps84
  go_wp2_with fail
  rw [hV.out]
  go_quiet (fail)
  go_wp2_with fail
  exact bodyPost_ret (v := .bool (m.2.1 == t.2.1)) (by simp [results, Try.results84, go_sem]) rfl ⟨ret_bool (by rw [Bool.eq_iff_iff]; simp), bel_drewN hbV nq⟩
end Go.Proofs.Ythmjbfocpdiikaa
/-
  The last three of skip.reasons.
-/
namespace Go.Proofs.Ythmjbfocpdiikaa
open Go.RowKit
set_option linter.unusedVariables false
set_option linter.unusedSimpArgs false
attribute [local go_sem] drewN_alloc drewN_setCell

theorem TickAt.take {w : World} {A : Option Addr} {n k : Nat} {l : List SK.Tick} (h : TickAt w A n l) (hk : k ≤ n) : TickAt w A k (l.take k) := by
  refine ⟨by rw [List.length_take, h.1]; omega, by have := h.2.1; omega, fun t ht => h.2.2.1 t (List.mem_of_mem_take ht), fun h0 => ?_⟩
  obtain ⟨b, off, e, hb, hc⟩ := h.2.2.2 (by omega)
  refine ⟨b, off, e, hb, fun i hi => ?_⟩
  have e2 : (l.take k).getD i SK.t0 = l.getD i SK.t0 := by simp only [List.getD]; rw [List.getElem?_take_of_lt hi]
  rw [e2]
  exact hc i (by omega)

set_option maxHeartbeats 2000000 in
theorem reason3 {TA MA : Option Addr} {tn : Nat} {ts : List SK.Tick} (tc mn mc k : Nat) (f wt : Int) {w : World} (h : TickAt w TA tn ts) (hk : k < tn) (htc : tn ≤ tc) (hcm : tc ≤ 9223372036854775807) :
    Calls Try.prog 83 #[.agg #[.slice TA tn tc, .slice MA mn mc, .int .i64 f, .int .i64 wt], .int .i64 (k : Int)] w fun e w' => e = .returned (.bool (SK.ahead ts k)) ∧ Below w.heap.size w w' := by
  obtain ⟨p, hp⟩ : ∃ p, w.heap.size = p := ⟨_, rfl⟩
  obtain ⟨V, hV⟩ : ∃ V, (w.alloc (.cells #[.slice TA tn tc, .slice MA mn mc, .int .i64 f, .int .i64 wt] 79)).alloc (.cells #[.int .i64 (k : Int)] 3) = V := ⟨_, rfl⟩
  have hbV : Below w.heap.size w V := by rw [← hV]; exact (by repeat (first | exact Below.refl _ _ | assumption | refine bel_drew ?_ | refine bel_drewN ?_ _ | refine bel_alloc ?_ _ | refine bel_set ?_ (by first | (dsimp only; omega) | (simp; done) | (simp; omega)) _ | refine bel_trans ?_ (by assumption)))
  have sV : p + 1 < V.heap.size := by rw [← hV, ← hp]; simp
  have c0 : V.cell? ⟨p, 0, none⟩ = some (.slice TA tn tc) := by rw [← hV, ← hp]; simp [go_sem]
  have c4 : V.cell? ⟨p + 1, 0, none⟩ = some (.int .i64 (k : Int)) := by rw [← hV, ← hp]; simp [go_sem]
  have hT := h.keep hbV
  have hT2 := hT.take (show k ≤ tn by omega)
  have K := Lib.hid (tick_ContainsFunc tc 84 #[.pointer (some ⟨p, 0, none⟩), .pointer (some ⟨p + 1, 0, none⟩)] (fun m => decide (m.2.1 = SK.cl ts k)) hT2 (fun args w => by simp [go_sem]) (fun m X hX _ => reason31 tc p k m (hT.keep hX) hk ((hX.cell (p := ⟨p, 0, none⟩) (by dsimp only; omega)).trans c0) ((hX.cell (p := ⟨p + 1, 0, none⟩) (by dsimp only; omega)).trans c4)))
  obtain ⟨b, off, rfl, _, _⟩ := h.2.2.2 (by omega)
  have e : SK.ahead ts k = (ts.take k).any (fun m => decide (m.2.1 = SK.cl ts k)) := rfl
  rw [e]
  generalize (ts.take k).any (fun m => decide (m.2.1 = SK.cl ts k)) = r at *
  have HV := Lib.hid hV
  have HP := Lib.hid hp
  have HB := Lib.hid hbV
  have j0 : (0 : Int) ≤ (k : Int) := by omega
  have j1 : (k : Int) ≤ (tc : Int) := by omega
  clear hT hT2 h c0 c4 e hV hp hbV
  go_enter Try.func83, Try.ntmps83
  go_wp2_with fail
  rw [HV.out, HP.out]
  refine K.out.mono ?_
  rintro e w1 ⟨rfl, h1⟩
  go_wp2_with fail
  exact bodyPost_ret (v := .bool r) (by simp [results, Try.results83, go_sem]) rfl ⟨rfl, bel_trans' HB.out h1 HB.out.size⟩

set_option maxHeartbeats 4000000 in
theorem reason4 {TA MA : Option Addr} {tn mn : Nat} {ts : List SK.Tick} {ms : List PO.Mem} (tc mc k : Nat) (f wt : Int) {w : World} (h : TickAt w TA tn ts) (hm : MemAt w MA mn ms) (hk : k < tn) (hn : mn ≤ 1000) (bf : -9223372036854775808 ≤ f ∧ f ≤ 9223372036854775807) (bw : -9223372036854775808 ≤ wt ∧ wt ≤ 9223372036854775807) :
    Calls Try.prog 86 #[.agg #[.slice TA tn tc, .slice MA mn mc, .int .i64 f, .int .i64 wt], .int .i64 (k : Int)] w fun e w' => e = .returned (.bool (!(PO.bmay f wt ms (SK.member ms (SK.cl ts k)) (ts.getD k SK.t0).2.2.1))) ∧ Below w.heap.size w w' := by
  obtain ⟨p, hp⟩ : ∃ p, w.heap.size = p := ⟨_, rfl⟩
  obtain ⟨V, hV⟩ : ∃ V, w.alloc (.cells #[.slice TA tn tc, .slice MA mn mc, .int .i64 f, .int .i64 wt] 79) = V := ⟨_, rfl⟩
  have hbV : Below w.heap.size w V := by rw [← hV]; exact (by repeat (first | exact Below.refl _ _ | assumption | refine bel_drew ?_ | refine bel_drewN ?_ _ | refine bel_alloc ?_ _ | refine bel_set ?_ (by first | (dsimp only; omega) | (simp; done) | (simp; omega)) _ | refine bel_trans ?_ (by assumption)))
  have sV : p < V.heap.size := by rw [← hV, ← hp]; simp
  have c0 : V.cell? ⟨p, 0, none⟩ = some (.slice TA tn tc) := by rw [← hV, ← hp]; simp [go_sem]
  have c1 : V.cell? ⟨p, 1, none⟩ = some (.slice MA mn mc) := by rw [← hV, ← hp]; simp [go_sem]
  have c2 : V.cell? ⟨p, 2, none⟩ = some (.int .i64 f) := by rw [← hV, ← hp]; simp [go_sem]
  have c3 : V.cell? ⟨p, 3, none⟩ = some (.int .i64 wt) := by rw [← hV, ← hp]; simp [go_sem]
  have hT := h.keep hbV
  have hM := hm.keep hbV
  have htb := (h.bd hk).2.2.1
  have hmb := SK.idx_bd (fun m => decide (m.1 = SK.cl ts k)) ms
  have hml := hm.1
  have K1 : Hid (∀ W, Below V.heap.size V W → Calls Try.prog 82 #[.agg #[.slice TA tn tc, .slice MA mn mc, .int .i64 f, .int .i64 wt], .int .i64 (k : Int)] W fun e w' => e = .returned (.int .i64 (SK.member ms (SK.cl ts k))) ∧ Below W.heap.size W w') := Lib.hid (fun W hW => skip_member tc mc k f wt (hT.keep hW) (hM.keep hW) hk)
  have K2 : Hid (∀ W, Below V.heap.size V W → Calls Try.prog 20 #[.int .i64 f, .int .i64 wt, .slice MA mn mc, .int .i64 (SK.member ms (SK.cl ts k)), .int .i64 (ts.getD k SK.t0).2.2.1] W fun e w' => e = .returned (.bool (PO.bmay f wt ms (SK.member ms (SK.cl ts k)) (ts.getD k SK.t0).2.2.1)) ∧ Below W.heap.size W w') := Lib.hid (fun W hW => bank_May mc f wt _ _ (hM.keep hW) hn bf bw (by unfold SK.member; omega) htb)
  obtain ⟨b, off, rfl, hb, hc⟩ := hT.2.2.2 (by omega)
  obtain ⟨x0, x1, x2, x3, x4⟩ := hc k hk
  generalize PO.bmay f wt ms (SK.member ms (SK.cl ts k)) (ts.getD k SK.t0).2.2.1 = r at *
  generalize SK.member ms (SK.cl ts k) = j at *
  generalize (ts.getD k SK.t0) = t at *
  have hS : Hid (∀ W : World, Below V.heap.size V W → (fun W : World => W.cell? ⟨p, 0, none⟩ = some (.slice (some ⟨b, off, none⟩) tn tc) ∧ W.cell? ⟨p, 1, none⟩ = some (.slice MA mn mc) ∧ W.cell? ⟨p, 2, none⟩ = some (.int .i64 f) ∧ W.cell? ⟨p, 3, none⟩ = some (.int .i64 wt) ∧ W.cell? ⟨b, off + k * 5 + 2, none⟩ = some (.int .i64 t.2.2.1)) W) := Lib.hid (fun W hW => ⟨(hW.cell sV).trans c0, (hW.cell sV).trans c1, (hW.cell sV).trans c2, (hW.cell sV).trans c3, (hW.cell hb).trans x2⟩)
  have HV := Lib.hid hV
  have HP := Lib.hid hp
  have HB := Lib.hid hbV
  have hnm := h.2.1
  have j0 : (0 : Int) ≤ (k : Int) := by omega
  have j1 : (k : Int) < (tn : Int) := by omega
  clear hT hM h hm c0 c1 c2 c3 hV hp hbV hc x0 x1 x2 x3 x4 hmb hml htb
  go_enter Try.func86, Try.ntmps86
  go_wp2_with fail
  rw [HV.out, HP.out]
  refine wp_region_held_drew (S := (fun W : World => W.cell? ⟨p, 0, none⟩ = some (.slice (some ⟨b, off, none⟩) tn tc) ∧ W.cell? ⟨p, 1, none⟩ = some (.slice MA mn mc) ∧ W.cell? ⟨p, 2, none⟩ = some (.int .i64 f) ∧ W.cell? ⟨p, 3, none⟩ = some (.int .i64 wt) ∧ W.cell? ⟨b, off + k * 5 + 2, none⟩ = some (.int .i64 t.2.2.1))) (by kernel_rfl) ?_ (fun hHeld => ?_)
  focus ((try dsimp only); exact hS.out _ (by repeat (first | exact Below.refl _ _ | assumption | refine bel_drew ?_ | refine bel_trans ?_ (by assumption))))
  refine tk_yes 0 (v := ?_) rfl (by kernel_rfl) (by kernel_rfl) (by kernel_rfl) (fun _ _ _ h => h) (by kernel_rfl) (by assumption) ?_ ?_; rotate_left; (focus (intro w hSw; (try dsimp only at hSw); go_simp; (first | done | (with_reducible rfl)))); (try simp only [Act.put, List.setIfInBounds_toArray, List.set_cons_zero, List.set_cons_succ])
  refine tk_yes 1 (v := ?_) rfl (by kernel_rfl) (by kernel_rfl) (by kernel_rfl) (fun _ _ _ h => h) (by kernel_rfl) (by assumption) ?_ ?_; rotate_left; (focus (intro w hSw; (try dsimp only at hSw); go_simp; (first | done | (with_reducible rfl)))); (try simp only [Act.put, List.setIfInBounds_toArray, List.set_cons_zero, List.set_cons_succ])
  refine tk_yes 2 (v := ?_) rfl (by kernel_rfl) (by kernel_rfl) (by kernel_rfl) (fun _ _ _ h => h) (by kernel_rfl) (by assumption) ?_ ?_; rotate_left; (focus (intro w hSw; (try dsimp only at hSw); go_simp; (first | done | (with_reducible rfl)))); (try simp only [Act.put, List.setIfInBounds_toArray, List.set_cons_zero, List.set_cons_succ])
  refine tk_yes 3 (v := ?_) rfl (by kernel_rfl) (by kernel_rfl) (by kernel_rfl) (fun _ _ _ h => h) (by kernel_rfl) (by assumption) ?_ ?_; rotate_left; (focus (intro w hSw; (try dsimp only at hSw); go_simp; (first | done | (with_reducible rfl)))); (try simp only [Act.put, List.setIfInBounds_toArray, List.set_cons_zero, List.set_cons_succ])
  refine tk_yes 4 (v := ?_) rfl (by kernel_rfl) (by kernel_rfl) (by kernel_rfl) (fun _ _ _ h => h) (by kernel_rfl) (by assumption) ?_ ?_; rotate_left; (focus (intro w hSw; (try dsimp only at hSw); go_simp; (first | done | (with_reducible rfl)))); (try simp only [Act.put, List.setIfInBounds_toArray, List.set_cons_zero, List.set_cons_succ])
  refine tk_yes 5 (v := ?_) rfl (by kernel_rfl) (by kernel_rfl) (by kernel_rfl) (fun _ _ _ h => h) (by kernel_rfl) (by assumption) ?_ ?_; rotate_left; (focus (intro w hSw; (try dsimp only at hSw); go_simp; (first | done | (with_reducible rfl)))); (try simp only [Act.put, List.setIfInBounds_toArray, List.set_cons_zero, List.set_cons_succ])
  refine tk_yes 6 (v := ?_) rfl (by kernel_rfl) (by kernel_rfl) (by kernel_rfl) (fun _ _ _ h => h) (by kernel_rfl) (by assumption) ?_ ?_; rotate_left; (focus (intro w hSw; (try dsimp only at hSw); go_simp; (first | done | (with_reducible rfl)))); (try simp only [Act.put, List.setIfInBounds_toArray, List.set_cons_zero, List.set_cons_succ])
  refine tk_yes 7 (v := ?_) rfl (by kernel_rfl) (by kernel_rfl) (by kernel_rfl) (fun _ _ _ h => h) (by kernel_rfl) (by assumption) ?_ ?_; rotate_left; (focus (intro w hSw; (try dsimp only at hSw); go_simp; (first | done | (with_reducible rfl)))); (try simp only [Act.put, List.setIfInBounds_toArray, List.set_cons_zero, List.set_cons_succ])
  refine tk_yes 9 (v := ?_) rfl (by kernel_rfl) (by kernel_rfl) (by kernel_rfl) (fun _ _ _ h => h) (by kernel_rfl) (by assumption) ?_ ?_; rotate_left; (focus (intro w hSw; (try dsimp only at hSw); go_simp; (first | done | (with_reducible rfl)))); (try simp only [Act.put, List.setIfInBounds_toArray, List.set_cons_zero, List.set_cons_succ])
  refine tk_yes 10 (v := ?_) rfl (by kernel_rfl) (by kernel_rfl) (by kernel_rfl) (fun _ _ _ h => h) (by kernel_rfl) (by assumption) ?_ ?_; rotate_left; (focus (intro w hSw; (try dsimp only at hSw); go_simp; (first | done | (with_reducible rfl)))); (try simp only [Act.put, List.setIfInBounds_toArray, List.set_cons_zero, List.set_cons_succ])
  refine tk_yes 11 (v := ?_) rfl (by kernel_rfl) (by kernel_rfl) (by kernel_rfl) (fun _ _ _ h => h) (by kernel_rfl) (by assumption) ?_ ?_; rotate_left; (focus (intro w hSw; (try dsimp only at hSw); go_simp; (first | done | (with_reducible rfl)))); (try simp only [Act.put, List.setIfInBounds_toArray, List.set_cons_zero, List.set_cons_succ])
  refine tk_yes 12 (v := ?_) rfl (by kernel_rfl) (by kernel_rfl) (by kernel_rfl) (fun _ _ _ h => h) (by kernel_rfl) (by assumption) ?_ ?_; rotate_left; (focus (intro w hSw; (try dsimp only at hSw); go_simp; (first | done | (with_reducible rfl)))); (try simp only [Act.put, List.setIfInBounds_toArray, List.set_cons_zero, List.set_cons_succ])
  refine tk_yes 13 (v := ?_) rfl (by kernel_rfl) (by kernel_rfl) (by kernel_rfl) (fun _ _ _ h => h) (by kernel_rfl) (by assumption) ?_ ?_; rotate_left; (focus (intro w hSw; (try dsimp only at hSw); go_simp; (first | done | (with_reducible rfl)))); (try simp only [Act.put, List.setIfInBounds_toArray, List.set_cons_zero, List.set_cons_succ])
  refine tk_yes 14 (v := ?_) rfl (by kernel_rfl) (by kernel_rfl) (by kernel_rfl) (fun _ _ _ h => h) (by kernel_rfl) (by assumption) ?_ ?_; rotate_left; (focus (intro w hSw; (try dsimp only at hSw); go_simp; (first | done | (with_reducible rfl)))); (try simp only [Act.put, List.setIfInBounds_toArray, List.set_cons_zero, List.set_cons_succ])
  refine tk_call 8 rfl (by kernel_rfl) (by kernel_rfl) (fun KW hKW => ?_); go_simp; go_at_call 82; refine (K1.out _ (by repeat (first | exact Below.refl _ _ | assumption | refine bel_drew ?_ | refine bel_trans ?_ (by assumption)))).mono ?_; rintro e u1 ⟨rfl, d1⟩; have t1 := bel_trans (bel_drew (Below.refl V.heap.size V)) d1; refine hKW.out _ _ ?_ (fun hHeld => ?_); (focus ((try dsimp only); exact hS.out _ (by repeat (first | exact Below.refl _ _ | assumption | refine bel_drew ?_ | refine bel_trans ?_ (by assumption))))); clear hKW KW; (try simp only [Act.put, List.setIfInBounds_toArray, List.set_cons_zero, List.set_cons_succ])
  refine tk_call 15 rfl (by kernel_rfl) (by kernel_rfl) (fun KW hKW => ?_); go_simp; go_at_call 20; refine (K2.out _ t1).mono ?_; rintro e u2 ⟨rfl, d2⟩; have t2 := bel_trans t1 d2; refine hKW.out _ _ ?_ (fun hHeld => ?_); (focus ((try dsimp only); exact hS.out _ (by repeat (first | exact Below.refl _ _ | assumption | refine bel_drew ?_ | refine bel_trans ?_ (by assumption))))); clear hKW KW; (try simp only [Act.put, List.setIfInBounds_toArray, List.set_cons_zero, List.set_cons_succ])
  refine tk_yes 16 (v := ?_) rfl (by kernel_rfl) (by kernel_rfl) (by kernel_rfl) (fun _ _ _ h => h) (by kernel_rfl) (by assumption) ?_ ?_; rotate_left; (focus (intro w hSw; (try dsimp only at hSw); go_simp; (first | done | (with_reducible rfl)))); (try simp only [Act.put, List.setIfInBounds_toArray, List.set_cons_zero, List.set_cons_succ])
  refine tk_yes 17 (v := ?_) rfl (by kernel_rfl) (by kernel_rfl) (by kernel_rfl) (fun _ _ _ h => h) (by kernel_rfl) (by assumption) ?_ ?_; rotate_left; (focus (intro w hSw; (try dsimp only at hSw); go_simp; (first | done | (with_reducible rfl)))); (try simp only [Act.put, List.setIfInBounds_toArray, List.set_cons_zero, List.set_cons_succ])
  refine wpAnyH_done (by kernel_rfl) ?_ _
  go_wp2_with fail
  exact bodyPost_ret (v := .bool (!r)) (by simp [results, Try.results86, go_sem]) rfl ⟨rfl, bel_trans' HB.out t2 HB.out.size⟩

set_option maxHeartbeats 4000000 in
theorem reason5 {TA MA : Option Addr} {tn mn : Nat} {ts : List SK.Tick} {ms : List PO.Mem} (tc mc k j : Nat) (f wt : Int) {w : World} (h : TickAt w TA tn ts) (hm : MemAt w MA mn ms) (hk : k < tn) (hj : SK.member ms (SK.cl ts k) = (j : Int)) (hjm : j < mn) :
    Calls Try.prog 87 #[.agg #[.slice TA tn tc, .slice MA mn mc, .int .i64 f, .int .i64 wt], .int .i64 (k : Int)] w fun e w' => e = .returned (.bool (decide (0 < (k : Int)) && (decide ((ms.getD j PO.m0).2.2.1 = 0) && decide (8 ≤ (ts.getD 0 SK.t0).2.2.2.2)))) ∧ Below w.heap.size w w' := by
  obtain ⟨p, hp⟩ : ∃ p, w.heap.size = p := ⟨_, rfl⟩
  obtain ⟨V, hV⟩ : ∃ V, w.alloc (.cells #[.slice TA tn tc, .slice MA mn mc, .int .i64 f, .int .i64 wt] 79) = V := ⟨_, rfl⟩
  have hbV : Below w.heap.size w V := by rw [← hV]; exact (by repeat (first | exact Below.refl _ _ | assumption | refine bel_drew ?_ | refine bel_drewN ?_ _ | refine bel_alloc ?_ _ | refine bel_set ?_ (by first | (dsimp only; omega) | (simp; done) | (simp; omega)) _ | refine bel_trans ?_ (by assumption)))
  have sV : p < V.heap.size := by rw [← hV, ← hp]; simp
  have c0 : V.cell? ⟨p, 0, none⟩ = some (.slice TA tn tc) := by rw [← hV, ← hp]; simp [go_sem]
  have c1 : V.cell? ⟨p, 1, none⟩ = some (.slice MA mn mc) := by rw [← hV, ← hp]; simp [go_sem]
  have c2 : V.cell? ⟨p, 2, none⟩ = some (.int .i64 f) := by rw [← hV, ← hp]; simp [go_sem]
  have c3 : V.cell? ⟨p, 3, none⟩ = some (.int .i64 wt) := by rw [← hV, ← hp]; simp [go_sem]
  have hT := h.keep hbV
  have hM := hm.keep hbV
  have K1 : Hid (∀ W, Below V.heap.size V W → Calls Try.prog 82 #[.agg #[.slice TA tn tc, .slice MA mn mc, .int .i64 f, .int .i64 wt], .int .i64 (k : Int)] W fun e w' => e = .returned (.int .i64 (j : Int)) ∧ Below W.heap.size W w') := Lib.hid (fun W hW => by rw [← hj]; exact skip_member tc mc k f wt (hT.keep hW) (hM.keep hW) hk)
  obtain ⟨b, off, rfl, hb, hc⟩ := hT.2.2.2 (by omega)
  obtain ⟨x0, x1, x2, x3, x4⟩ := hc 0 (by omega)
  obtain ⟨b', off', rfl, hb', hc'⟩ := hM.2.2.2 (by omega)
  obtain ⟨y0, y1, y2, y3⟩ := hc' j hjm
  simp only [Nat.zero_mul, Nat.add_zero] at x4
  generalize (ts.getD 0 SK.t0) = t at *
  generalize (ms.getD j PO.m0) = m at *
  have hS : Hid (∀ W : World, Below V.heap.size V W → (fun W : World => W.cell? ⟨p, 0, none⟩ = some (.slice (some ⟨b, off, none⟩) tn tc) ∧ W.cell? ⟨p, 1, none⟩ = some (.slice (some ⟨b', off', none⟩) mn mc) ∧ W.cell? ⟨p, 2, none⟩ = some (.int .i64 f) ∧ W.cell? ⟨p, 3, none⟩ = some (.int .i64 wt) ∧ W.cell? ⟨b, off + 4, none⟩ = some (.int .i64 t.2.2.2.2) ∧ W.cell? ⟨b', off' + j * 4 + 2, none⟩ = some (.int .i64 m.2.2.1)) W) := Lib.hid (fun W hW => ⟨(hW.cell sV).trans c0, (hW.cell sV).trans c1, (hW.cell sV).trans c2, (hW.cell sV).trans c3, (hW.cell hb).trans x4, (hW.cell hb').trans y2⟩)
  have HV := Lib.hid hV
  have HP := Lib.hid hp
  have HB := Lib.hid hbV
  have hnm := h.2.1
  have hnm2 := hm.2.1
  have j0 : (0 : Int) ≤ (j : Int) := by omega
  have j1 : (j : Int) < (mn : Int) := by omega
  have j2 : (0 : Int) < (tn : Int) := by omega
  have j3 : 0 < tn := by omega
  clear hT hM h hm c0 c1 c2 c3 hV hp hbV hc hc' x0 x1 x2 x3 x4 y0 y1 y2 y3 hj
  by_cases hk0 : 0 < k
  · have g0 : decide (0 < (k : Int)) = true := decide_eq_true (by omega)
    have g0' : decide (0 < k) = true := decide_eq_true hk0
    by_cases hh : m.2.2.1 = 0
    · have g1 : (m.2.2.1 == 0) = true := by simpa using hh
      have e : (decide (0 < (k : Int)) && (decide (m.2.2.1 = 0) && decide (8 ≤ t.2.2.2.2))) = decide (8 ≤ t.2.2.2.2) := by rw [g0, decide_eq_true hh]; simp
      rw [e]
      clear hh e
      go_enter Try.func87, Try.ntmps87
      go_wp2_with fail
      rw [HV.out, HP.out]
      refine wp_region_held_drew (S := (fun W : World => W.cell? ⟨p, 0, none⟩ = some (.slice (some ⟨b, off, none⟩) tn tc) ∧ W.cell? ⟨p, 1, none⟩ = some (.slice (some ⟨b', off', none⟩) mn mc) ∧ W.cell? ⟨p, 2, none⟩ = some (.int .i64 f) ∧ W.cell? ⟨p, 3, none⟩ = some (.int .i64 wt) ∧ W.cell? ⟨b, off + 4, none⟩ = some (.int .i64 t.2.2.2.2) ∧ W.cell? ⟨b', off' + j * 4 + 2, none⟩ = some (.int .i64 m.2.2.1))) (by kernel_rfl) ?_ (fun hHeld => ?_)
      focus ((try dsimp only); exact hS.out _ (by repeat (first | exact Below.refl _ _ | assumption | refine bel_drew ?_ | refine bel_trans ?_ (by assumption))))
      refine tk_yes 0 (v := ?_) rfl (by kernel_rfl) (by kernel_rfl) (by kernel_rfl) (fun _ _ _ h => h) (by kernel_rfl) (by assumption) ?_ ?_; rotate_left; (focus (intro w hSw; (try dsimp only at hSw); go_simp; (first | done | (with_reducible rfl)))); (try simp only [Act.put, List.setIfInBounds_toArray, List.set_cons_zero, List.set_cons_succ])
      refine tk_yes 1 (v := ?_) rfl (by kernel_rfl) (by kernel_rfl) (by kernel_rfl) (fun _ _ _ h => h) (by kernel_rfl) (by assumption) ?_ ?_; rotate_left; (focus (intro w hSw; (try dsimp only at hSw); go_simp; (first | done | (with_reducible rfl)))); (try simp only [Act.put, List.setIfInBounds_toArray, List.set_cons_zero, List.set_cons_succ])
      refine tk_yes 2 (v := ?_) rfl (by kernel_rfl) (by kernel_rfl) (by kernel_rfl) (fun _ _ _ h => h) (by kernel_rfl) (by assumption) ?_ ?_; rotate_left; (focus (intro w hSw; (try dsimp only at hSw); go_simp; (first | done | (with_reducible rfl)))); (try simp only [Act.put, List.setIfInBounds_toArray, List.set_cons_zero, List.set_cons_succ])
      refine tk_yes 3 (v := ?_) rfl (by kernel_rfl) (by kernel_rfl) (by kernel_rfl) (fun _ _ _ h => h) (by kernel_rfl) (by assumption) ?_ ?_; rotate_left; (focus (intro w hSw; (try dsimp only at hSw); go_simp; (first | done | (with_reducible rfl)))); (try simp only [Act.put, List.setIfInBounds_toArray, List.set_cons_zero, List.set_cons_succ])
      refine tk_yes 4 (v := ?_) rfl (by kernel_rfl) (by kernel_rfl) (by kernel_rfl) (fun _ _ _ h => h) (by kernel_rfl) (by assumption) ?_ ?_; rotate_left; (focus (intro w hSw; (try dsimp only at hSw); go_simp; (first | done | (with_reducible rfl)))); (try simp only [Act.put, List.setIfInBounds_toArray, List.set_cons_zero, List.set_cons_succ])
      refine tk_yes 5 (v := ?_) rfl (by kernel_rfl) (by kernel_rfl) (by kernel_rfl) (fun _ _ _ h => h) (by kernel_rfl) (by assumption) ?_ ?_; rotate_left; (focus (intro w hSw; (try dsimp only at hSw); go_simp; (first | done | (with_reducible rfl)))); (try simp only [Act.put, List.setIfInBounds_toArray, List.set_cons_zero, List.set_cons_succ])
      refine tk_yes 6 (v := ?_) rfl (by kernel_rfl) (by kernel_rfl) (by kernel_rfl) (fun _ _ _ h => h) (by kernel_rfl) (by assumption) ?_ ?_; rotate_left; (focus (intro w hSw; (try dsimp only at hSw); go_simp; (first | done | (with_reducible rfl)))); (try simp only [Act.put, List.setIfInBounds_toArray, List.set_cons_zero, List.set_cons_succ])
      refine tk_call 7 rfl (by kernel_rfl) (by kernel_rfl) (fun KW hKW => ?_); go_simp; go_at_call 82; refine (K1.out _ (by repeat (first | exact Below.refl _ _ | assumption | refine bel_drew ?_ | refine bel_trans ?_ (by assumption)))).mono ?_; rintro e u1 ⟨rfl, d1⟩; have t1 := bel_trans (bel_drew (Below.refl V.heap.size V)) d1; refine hKW.out _ _ ?_ (fun hHeld => ?_); (focus ((try dsimp only); exact hS.out _ (by repeat (first | exact Below.refl _ _ | assumption | refine bel_drew ?_ | refine bel_trans ?_ (by assumption))))); clear hKW KW; (try simp only [Act.put, List.setIfInBounds_toArray, List.set_cons_zero, List.set_cons_succ])
      refine tk_yes 8 (v := ?_) rfl (by kernel_rfl) (by kernel_rfl) (by kernel_rfl) (fun _ _ _ h => h) (by kernel_rfl) (by assumption) ?_ ?_; rotate_left; (focus (intro w hSw; (try dsimp only at hSw); go_simp; (first | done | (with_reducible rfl)))); (try simp only [Act.put, List.setIfInBounds_toArray, List.set_cons_zero, List.set_cons_succ])
      refine tk_yes 9 (v := ?_) rfl (by kernel_rfl) (by kernel_rfl) (by kernel_rfl) (fun _ _ _ h => h) (by kernel_rfl) (by assumption) ?_ ?_; rotate_left; (focus (intro w hSw; (try dsimp only at hSw); go_simp; (first | done | (with_reducible rfl)))); (try simp only [Act.put, List.setIfInBounds_toArray, List.set_cons_zero, List.set_cons_succ])
      refine tk_yes 10 (v := ?_) rfl (by kernel_rfl) (by kernel_rfl) (by kernel_rfl) (fun _ _ _ h => h) (by kernel_rfl) (by assumption) ?_ ?_; rotate_left; (focus (intro w hSw; (try dsimp only at hSw); go_simp; (first | done | (with_reducible rfl)))); (try simp only [Act.put, List.setIfInBounds_toArray, List.set_cons_zero, List.set_cons_succ])
      refine tk_yes 11 (v := ?_) rfl (by kernel_rfl) (by kernel_rfl) (by kernel_rfl) (fun _ _ _ h => h) (by kernel_rfl) (by assumption) ?_ ?_; rotate_left; (focus (intro w hSw; (try dsimp only at hSw); go_simp; (first | done | (with_reducible rfl)))); (try simp only [Act.put, List.setIfInBounds_toArray, List.set_cons_zero, List.set_cons_succ])
      refine tk_yes 12 (v := ?_) rfl (by kernel_rfl) (by kernel_rfl) (by kernel_rfl) (fun _ _ _ h => h) (by kernel_rfl) (by assumption) ?_ ?_; rotate_left; (focus (intro w hSw; (try dsimp only at hSw); go_simp; (first | done | (with_reducible rfl)))); (try simp only [Act.put, List.setIfInBounds_toArray, List.set_cons_zero, List.set_cons_succ])
      refine tk_yes 13 (v := ?_) rfl (by kernel_rfl) (by kernel_rfl) (by kernel_rfl) (fun _ _ _ h => h) (by kernel_rfl) (by assumption) ?_ ?_; rotate_left; (focus (intro w hSw; (try dsimp only at hSw); go_simp; (first | done | (with_reducible rfl)))); (try simp only [Act.put, List.setIfInBounds_toArray, List.set_cons_zero, List.set_cons_succ])
      refine tk_yes 14 (v := ?_) rfl (by kernel_rfl) (by kernel_rfl) (by kernel_rfl) (fun _ _ _ h => h) (by kernel_rfl) (by assumption) ?_ ?_; rotate_left; (focus (intro w hSw; (try dsimp only at hSw); go_simp; (first | done | (with_reducible rfl)))); (try simp only [Act.put, List.setIfInBounds_toArray, List.set_cons_zero, List.set_cons_succ])
      refine tk_yes 15 (v := ?_) rfl (by kernel_rfl) (by kernel_rfl) (by kernel_rfl) (fun _ _ _ h => h) (by kernel_rfl) (by assumption) ?_ ?_; rotate_left; (focus (intro w hSw; (try dsimp only at hSw); go_simp; (first | done | (with_reducible rfl)))); (try simp only [Act.put, List.setIfInBounds_toArray, List.set_cons_zero, List.set_cons_succ])
      refine tk_yes 16 (v := ?_) rfl (by kernel_rfl) (by kernel_rfl) (by kernel_rfl) (fun _ _ _ h => h) (by kernel_rfl) (by assumption) ?_ ?_; rotate_left; (focus (intro w hSw; (try dsimp only at hSw); go_simp; (first | done | (with_reducible rfl)))); (try simp only [Act.put, List.setIfInBounds_toArray, List.set_cons_zero, List.set_cons_succ])
      refine tk_yes 17 (v := ?_) rfl (by kernel_rfl) (by kernel_rfl) (by kernel_rfl) (fun _ _ _ h => h) (by kernel_rfl) (by assumption) ?_ ?_; rotate_left; (focus (intro w hSw; (try dsimp only at hSw); go_simp; (first | done | (with_reducible rfl)))); (try simp only [Act.put, List.setIfInBounds_toArray, List.set_cons_zero, List.set_cons_succ])
      refine tk_yes 18 (v := ?_) rfl (by kernel_rfl) (by kernel_rfl) (by kernel_rfl) (fun _ _ _ h => h) (by kernel_rfl) (by assumption) ?_ ?_; rotate_left; (focus (intro w hSw; (try dsimp only at hSw); go_simp; (first | done | (with_reducible rfl)))); (try simp only [Act.put, List.setIfInBounds_toArray, List.set_cons_zero, List.set_cons_succ])
      refine tk_yes 19 (v := ?_) rfl (by kernel_rfl) (by kernel_rfl) (by kernel_rfl) (fun _ _ _ h => h) (by kernel_rfl) (by assumption) ?_ ?_; rotate_left; (focus (intro w hSw; (try dsimp only at hSw); go_simp; (first | done | (with_reducible rfl)))); (try simp only [Act.put, List.setIfInBounds_toArray, List.set_cons_zero, List.set_cons_succ])
      refine tk_yes 20 (v := ?_) rfl (by kernel_rfl) (by kernel_rfl) (by kernel_rfl) (fun _ _ _ h => h) (by kernel_rfl) (by assumption) ?_ ?_; rotate_left; (focus (intro w hSw; (try dsimp only at hSw); go_simp; (first | done | (with_reducible rfl)))); (try simp only [Act.put, List.setIfInBounds_toArray, List.set_cons_zero, List.set_cons_succ])
      refine tk_yes 21 (v := ?_) rfl (by kernel_rfl) (by kernel_rfl) (by kernel_rfl) (fun _ _ _ h => h) (by kernel_rfl) (by assumption) ?_ ?_; rotate_left; (focus (intro w hSw; (try dsimp only at hSw); go_simp; (first | done | (with_reducible rfl)))); (try simp only [Act.put, List.setIfInBounds_toArray, List.set_cons_zero, List.set_cons_succ])
      refine tk_yes 22 (v := ?_) rfl (by kernel_rfl) (by kernel_rfl) (by kernel_rfl) (fun _ _ _ h => h) (by kernel_rfl) (by assumption) ?_ ?_; rotate_left; (focus (intro w hSw; (try dsimp only at hSw); go_simp; (first | done | (with_reducible rfl)))); (try simp only [Act.put, List.setIfInBounds_toArray, List.set_cons_zero, List.set_cons_succ])
      refine wpAnyH_done (by kernel_rfl) ?_ _
      go_wp2_with fail
      exact bodyPost_ret (v := .bool (decide (8 ≤ t.2.2.2.2))) (by simp [results, Try.results87, go_sem]) rfl ⟨rfl, bel_trans' HB.out t1 HB.out.size⟩

    · have g1 : (m.2.2.1 == 0) = false := by simpa using hh
      have e : (decide (0 < (k : Int)) && (decide (m.2.2.1 = 0) && decide (8 ≤ t.2.2.2.2))) = false := by rw [decide_eq_false hh]; simp
      rw [e]
      clear hh e
      go_enter Try.func87, Try.ntmps87
      go_wp2_with fail
      rw [HV.out, HP.out]
      refine wp_region_held_drew (S := (fun W : World => W.cell? ⟨p, 0, none⟩ = some (.slice (some ⟨b, off, none⟩) tn tc) ∧ W.cell? ⟨p, 1, none⟩ = some (.slice (some ⟨b', off', none⟩) mn mc) ∧ W.cell? ⟨p, 2, none⟩ = some (.int .i64 f) ∧ W.cell? ⟨p, 3, none⟩ = some (.int .i64 wt) ∧ W.cell? ⟨b, off + 4, none⟩ = some (.int .i64 t.2.2.2.2) ∧ W.cell? ⟨b', off' + j * 4 + 2, none⟩ = some (.int .i64 m.2.2.1))) (by kernel_rfl) ?_ (fun hHeld => ?_)
      focus ((try dsimp only); exact hS.out _ (by repeat (first | exact Below.refl _ _ | assumption | refine bel_drew ?_ | refine bel_trans ?_ (by assumption))))
      refine tk_yes 0 (v := ?_) rfl (by kernel_rfl) (by kernel_rfl) (by kernel_rfl) (fun _ _ _ h => h) (by kernel_rfl) (by assumption) ?_ ?_; rotate_left; (focus (intro w hSw; (try dsimp only at hSw); go_simp; (first | done | (with_reducible rfl)))); (try simp only [Act.put, List.setIfInBounds_toArray, List.set_cons_zero, List.set_cons_succ])
      refine tk_yes 1 (v := ?_) rfl (by kernel_rfl) (by kernel_rfl) (by kernel_rfl) (fun _ _ _ h => h) (by kernel_rfl) (by assumption) ?_ ?_; rotate_left; (focus (intro w hSw; (try dsimp only at hSw); go_simp; (first | done | (with_reducible rfl)))); (try simp only [Act.put, List.setIfInBounds_toArray, List.set_cons_zero, List.set_cons_succ])
      refine tk_yes 2 (v := ?_) rfl (by kernel_rfl) (by kernel_rfl) (by kernel_rfl) (fun _ _ _ h => h) (by kernel_rfl) (by assumption) ?_ ?_; rotate_left; (focus (intro w hSw; (try dsimp only at hSw); go_simp; (first | done | (with_reducible rfl)))); (try simp only [Act.put, List.setIfInBounds_toArray, List.set_cons_zero, List.set_cons_succ])
      refine tk_yes 3 (v := ?_) rfl (by kernel_rfl) (by kernel_rfl) (by kernel_rfl) (fun _ _ _ h => h) (by kernel_rfl) (by assumption) ?_ ?_; rotate_left; (focus (intro w hSw; (try dsimp only at hSw); go_simp; (first | done | (with_reducible rfl)))); (try simp only [Act.put, List.setIfInBounds_toArray, List.set_cons_zero, List.set_cons_succ])
      refine tk_yes 4 (v := ?_) rfl (by kernel_rfl) (by kernel_rfl) (by kernel_rfl) (fun _ _ _ h => h) (by kernel_rfl) (by assumption) ?_ ?_; rotate_left; (focus (intro w hSw; (try dsimp only at hSw); go_simp; (first | done | (with_reducible rfl)))); (try simp only [Act.put, List.setIfInBounds_toArray, List.set_cons_zero, List.set_cons_succ])
      refine tk_yes 5 (v := ?_) rfl (by kernel_rfl) (by kernel_rfl) (by kernel_rfl) (fun _ _ _ h => h) (by kernel_rfl) (by assumption) ?_ ?_; rotate_left; (focus (intro w hSw; (try dsimp only at hSw); go_simp; (first | done | (with_reducible rfl)))); (try simp only [Act.put, List.setIfInBounds_toArray, List.set_cons_zero, List.set_cons_succ])
      refine tk_yes 6 (v := ?_) rfl (by kernel_rfl) (by kernel_rfl) (by kernel_rfl) (fun _ _ _ h => h) (by kernel_rfl) (by assumption) ?_ ?_; rotate_left; (focus (intro w hSw; (try dsimp only at hSw); go_simp; (first | done | (with_reducible rfl)))); (try simp only [Act.put, List.setIfInBounds_toArray, List.set_cons_zero, List.set_cons_succ])
      refine tk_call 7 rfl (by kernel_rfl) (by kernel_rfl) (fun KW hKW => ?_); go_simp; go_at_call 82; refine (K1.out _ (by repeat (first | exact Below.refl _ _ | assumption | refine bel_drew ?_ | refine bel_trans ?_ (by assumption)))).mono ?_; rintro e u1 ⟨rfl, d1⟩; have t1 := bel_trans (bel_drew (Below.refl V.heap.size V)) d1; refine hKW.out _ _ ?_ (fun hHeld => ?_); (focus ((try dsimp only); exact hS.out _ (by repeat (first | exact Below.refl _ _ | assumption | refine bel_drew ?_ | refine bel_trans ?_ (by assumption))))); clear hKW KW; (try simp only [Act.put, List.setIfInBounds_toArray, List.set_cons_zero, List.set_cons_succ])
      refine tk_yes 8 (v := ?_) rfl (by kernel_rfl) (by kernel_rfl) (by kernel_rfl) (fun _ _ _ h => h) (by kernel_rfl) (by assumption) ?_ ?_; rotate_left; (focus (intro w hSw; (try dsimp only at hSw); go_simp; (first | done | (with_reducible rfl)))); (try simp only [Act.put, List.setIfInBounds_toArray, List.set_cons_zero, List.set_cons_succ])
      refine tk_yes 9 (v := ?_) rfl (by kernel_rfl) (by kernel_rfl) (by kernel_rfl) (fun _ _ _ h => h) (by kernel_rfl) (by assumption) ?_ ?_; rotate_left; (focus (intro w hSw; (try dsimp only at hSw); go_simp; (first | done | (with_reducible rfl)))); (try simp only [Act.put, List.setIfInBounds_toArray, List.set_cons_zero, List.set_cons_succ])
      refine tk_yes 10 (v := ?_) rfl (by kernel_rfl) (by kernel_rfl) (by kernel_rfl) (fun _ _ _ h => h) (by kernel_rfl) (by assumption) ?_ ?_; rotate_left; (focus (intro w hSw; (try dsimp only at hSw); go_simp; (first | done | (with_reducible rfl)))); (try simp only [Act.put, List.setIfInBounds_toArray, List.set_cons_zero, List.set_cons_succ])
      refine tk_yes 11 (v := ?_) rfl (by kernel_rfl) (by kernel_rfl) (by kernel_rfl) (fun _ _ _ h => h) (by kernel_rfl) (by assumption) ?_ ?_; rotate_left; (focus (intro w hSw; (try dsimp only at hSw); go_simp; (first | done | (with_reducible rfl)))); (try simp only [Act.put, List.setIfInBounds_toArray, List.set_cons_zero, List.set_cons_succ])
      refine tk_yes 12 (v := ?_) rfl (by kernel_rfl) (by kernel_rfl) (by kernel_rfl) (fun _ _ _ h => h) (by kernel_rfl) (by assumption) ?_ ?_; rotate_left; (focus (intro w hSw; (try dsimp only at hSw); go_simp; (first | done | (with_reducible rfl)))); (try simp only [Act.put, List.setIfInBounds_toArray, List.set_cons_zero, List.set_cons_succ])
      refine tk_yes 13 (v := ?_) rfl (by kernel_rfl) (by kernel_rfl) (by kernel_rfl) (fun _ _ _ h => h) (by kernel_rfl) (by assumption) ?_ ?_; rotate_left; (focus (intro w hSw; (try dsimp only at hSw); go_simp; (first | done | (with_reducible rfl)))); (try simp only [Act.put, List.setIfInBounds_toArray, List.set_cons_zero, List.set_cons_succ])
      refine tk_yes 14 (v := ?_) rfl (by kernel_rfl) (by kernel_rfl) (by kernel_rfl) (fun _ _ _ h => h) (by kernel_rfl) (by assumption) ?_ ?_; rotate_left; (focus (intro w hSw; (try dsimp only at hSw); go_simp; (first | done | (with_reducible rfl)))); (try simp only [Act.put, List.setIfInBounds_toArray, List.set_cons_zero, List.set_cons_succ])
      refine tk_no 15 rfl (by kernel_rfl) (by kernel_rfl) (by kernel_rfl) (fun _ _ _ h => h) (by kernel_rfl) (by assumption) ?_; (try simp only [Act.put, List.setIfInBounds_toArray, List.set_cons_zero, List.set_cons_succ])
      refine tk_no 16 rfl (by kernel_rfl) (by kernel_rfl) (by kernel_rfl) (fun _ _ _ h => h) (by kernel_rfl) (by assumption) ?_; (try simp only [Act.put, List.setIfInBounds_toArray, List.set_cons_zero, List.set_cons_succ])
      refine tk_no 17 rfl (by kernel_rfl) (by kernel_rfl) (by kernel_rfl) (fun _ _ _ h => h) (by kernel_rfl) (by assumption) ?_; (try simp only [Act.put, List.setIfInBounds_toArray, List.set_cons_zero, List.set_cons_succ])
      refine tk_no 18 rfl (by kernel_rfl) (by kernel_rfl) (by kernel_rfl) (fun _ _ _ h => h) (by kernel_rfl) (by assumption) ?_; (try simp only [Act.put, List.setIfInBounds_toArray, List.set_cons_zero, List.set_cons_succ])
      refine tk_no 19 rfl (by kernel_rfl) (by kernel_rfl) (by kernel_rfl) (fun _ _ _ h => h) (by kernel_rfl) (by assumption) ?_; (try simp only [Act.put, List.setIfInBounds_toArray, List.set_cons_zero, List.set_cons_succ])
      refine tk_no 20 rfl (by kernel_rfl) (by kernel_rfl) (by kernel_rfl) (fun _ _ _ h => h) (by kernel_rfl) (by assumption) ?_; (try simp only [Act.put, List.setIfInBounds_toArray, List.set_cons_zero, List.set_cons_succ])
      refine tk_yes 21 (v := ?_) rfl (by kernel_rfl) (by kernel_rfl) (by kernel_rfl) (fun _ _ _ h => h) (by kernel_rfl) (by assumption) ?_ ?_; rotate_left; (focus (intro w hSw; (try dsimp only at hSw); go_simp; (first | done | (with_reducible rfl)))); (try simp only [Act.put, List.setIfInBounds_toArray, List.set_cons_zero, List.set_cons_succ])
      refine tk_yes 22 (v := ?_) rfl (by kernel_rfl) (by kernel_rfl) (by kernel_rfl) (fun _ _ _ h => h) (by kernel_rfl) (by assumption) ?_ ?_; rotate_left; (focus (intro w hSw; (try dsimp only at hSw); go_simp; (first | done | (with_reducible rfl)))); (try simp only [Act.put, List.setIfInBounds_toArray, List.set_cons_zero, List.set_cons_succ])
      refine wpAnyH_done (by kernel_rfl) ?_ _
      go_wp2_with fail
      exact bodyPost_ret (v := .bool false) (by simp [results, Try.results87, go_sem]) rfl ⟨rfl, bel_trans' HB.out t1 HB.out.size⟩

  · have g0 : decide (0 < (k : Int)) = false := decide_eq_false (by omega)
    have g0' : decide (0 < k) = false := decide_eq_false hk0
    have g0'' : ¬ ((0:Int) < (k : Int)) := by omega
    have e : (decide (0 < (k : Int)) && (decide (m.2.2.1 = 0) && decide (8 ≤ t.2.2.2.2))) = false := by rw [g0]; simp
    rw [e]
    clear e
    go_enter Try.func87, Try.ntmps87
    go_wp2_with fail
    rw [HV.out, HP.out]
    refine wp_region_held_drew (S := (fun W : World => W.cell? ⟨p, 0, none⟩ = some (.slice (some ⟨b, off, none⟩) tn tc) ∧ W.cell? ⟨p, 1, none⟩ = some (.slice (some ⟨b', off', none⟩) mn mc) ∧ W.cell? ⟨p, 2, none⟩ = some (.int .i64 f) ∧ W.cell? ⟨p, 3, none⟩ = some (.int .i64 wt) ∧ W.cell? ⟨b, off + 4, none⟩ = some (.int .i64 t.2.2.2.2) ∧ W.cell? ⟨b', off' + j * 4 + 2, none⟩ = some (.int .i64 m.2.2.1))) (by kernel_rfl) ?_ (fun hHeld => ?_)
    focus ((try dsimp only); exact hS.out _ (by repeat (first | exact Below.refl _ _ | assumption | refine bel_drew ?_ | refine bel_trans ?_ (by assumption))))
    refine tk_yes 0 (v := ?_) rfl (by kernel_rfl) (by kernel_rfl) (by kernel_rfl) (fun _ _ _ h => h) (by kernel_rfl) (by assumption) ?_ ?_; rotate_left; (focus (intro w hSw; (try dsimp only at hSw); go_simp; (first | done | (with_reducible rfl)))); (try simp only [Act.put, List.setIfInBounds_toArray, List.set_cons_zero, List.set_cons_succ])
    refine tk_yes 1 (v := ?_) rfl (by kernel_rfl) (by kernel_rfl) (by kernel_rfl) (fun _ _ _ h => h) (by kernel_rfl) (by assumption) ?_ ?_; rotate_left; (focus (intro w hSw; (try dsimp only at hSw); go_simp; (first | done | (with_reducible rfl)))); (try simp only [Act.put, List.setIfInBounds_toArray, List.set_cons_zero, List.set_cons_succ])
    refine tk_yes 2 (v := ?_) rfl (by kernel_rfl) (by kernel_rfl) (by kernel_rfl) (fun _ _ _ h => h) (by kernel_rfl) (by assumption) ?_ ?_; rotate_left; (focus (intro w hSw; (try dsimp only at hSw); go_simp; (first | done | (with_reducible rfl)))); (try simp only [Act.put, List.setIfInBounds_toArray, List.set_cons_zero, List.set_cons_succ])
    refine tk_no 3 rfl (by kernel_rfl) (by kernel_rfl) (by kernel_rfl) (fun _ _ _ h => h) (by kernel_rfl) (by assumption) ?_; (try simp only [Act.put, List.setIfInBounds_toArray, List.set_cons_zero, List.set_cons_succ])
    refine tk_no 4 rfl (by kernel_rfl) (by kernel_rfl) (by kernel_rfl) (fun _ _ _ h => h) (by kernel_rfl) (by assumption) ?_; (try simp only [Act.put, List.setIfInBounds_toArray, List.set_cons_zero, List.set_cons_succ])
    refine tk_no 5 rfl (by kernel_rfl) (by kernel_rfl) (by kernel_rfl) (fun _ _ _ h => h) (by kernel_rfl) (by assumption) ?_; (try simp only [Act.put, List.setIfInBounds_toArray, List.set_cons_zero, List.set_cons_succ])
    refine tk_no 6 rfl (by kernel_rfl) (by kernel_rfl) (by kernel_rfl) (fun _ _ _ h => h) (by kernel_rfl) (by assumption) ?_; (try simp only [Act.put, List.setIfInBounds_toArray, List.set_cons_zero, List.set_cons_succ])
    refine tk_no 7 rfl (by kernel_rfl) (by kernel_rfl) (by kernel_rfl) (fun _ _ _ h => h) (by kernel_rfl) (by assumption) ?_; (try simp only [Act.put, List.setIfInBounds_toArray, List.set_cons_zero, List.set_cons_succ])
    refine tk_no 8 rfl (by kernel_rfl) (by kernel_rfl) (by kernel_rfl) (fun _ _ _ h => h) (by kernel_rfl) (by assumption) ?_; (try simp only [Act.put, List.setIfInBounds_toArray, List.set_cons_zero, List.set_cons_succ])
    refine tk_no 9 rfl (by kernel_rfl) (by kernel_rfl) (by kernel_rfl) (fun _ _ _ h => h) (by kernel_rfl) (by assumption) ?_; (try simp only [Act.put, List.setIfInBounds_toArray, List.set_cons_zero, List.set_cons_succ])
    refine tk_no 10 rfl (by kernel_rfl) (by kernel_rfl) (by kernel_rfl) (fun _ _ _ h => h) (by kernel_rfl) (by assumption) ?_; (try simp only [Act.put, List.setIfInBounds_toArray, List.set_cons_zero, List.set_cons_succ])
    refine tk_no 11 rfl (by kernel_rfl) (by kernel_rfl) (by kernel_rfl) (fun _ _ _ h => h) (by kernel_rfl) (by assumption) ?_; (try simp only [Act.put, List.setIfInBounds_toArray, List.set_cons_zero, List.set_cons_succ])
    refine tk_no 12 rfl (by kernel_rfl) (by kernel_rfl) (by kernel_rfl) (fun _ _ _ h => h) (by kernel_rfl) (by assumption) ?_; (try simp only [Act.put, List.setIfInBounds_toArray, List.set_cons_zero, List.set_cons_succ])
    refine tk_yes 13 (v := ?_) rfl (by kernel_rfl) (by kernel_rfl) (by kernel_rfl) (fun _ _ _ h => h) (by kernel_rfl) (by assumption) ?_ ?_; rotate_left; (focus (intro w hSw; (try dsimp only at hSw); go_simp; (first | done | (with_reducible rfl)))); (try simp only [Act.put, List.setIfInBounds_toArray, List.set_cons_zero, List.set_cons_succ])
    refine tk_yes 14 (v := ?_) rfl (by kernel_rfl) (by kernel_rfl) (by kernel_rfl) (fun _ _ _ h => h) (by kernel_rfl) (by assumption) ?_ ?_; rotate_left; (focus (intro w hSw; (try dsimp only at hSw); go_simp; (first | done | (with_reducible rfl)))); (try simp only [Act.put, List.setIfInBounds_toArray, List.set_cons_zero, List.set_cons_succ])
    refine tk_no 15 rfl (by kernel_rfl) (by kernel_rfl) (by kernel_rfl) (fun _ _ _ h => h) (by kernel_rfl) (by assumption) ?_; (try simp only [Act.put, List.setIfInBounds_toArray, List.set_cons_zero, List.set_cons_succ])
    refine tk_no 16 rfl (by kernel_rfl) (by kernel_rfl) (by kernel_rfl) (fun _ _ _ h => h) (by kernel_rfl) (by assumption) ?_; (try simp only [Act.put, List.setIfInBounds_toArray, List.set_cons_zero, List.set_cons_succ])
    refine tk_no 17 rfl (by kernel_rfl) (by kernel_rfl) (by kernel_rfl) (fun _ _ _ h => h) (by kernel_rfl) (by assumption) ?_; (try simp only [Act.put, List.setIfInBounds_toArray, List.set_cons_zero, List.set_cons_succ])
    refine tk_no 18 rfl (by kernel_rfl) (by kernel_rfl) (by kernel_rfl) (fun _ _ _ h => h) (by kernel_rfl) (by assumption) ?_; (try simp only [Act.put, List.setIfInBounds_toArray, List.set_cons_zero, List.set_cons_succ])
    refine tk_no 19 rfl (by kernel_rfl) (by kernel_rfl) (by kernel_rfl) (fun _ _ _ h => h) (by kernel_rfl) (by assumption) ?_; (try simp only [Act.put, List.setIfInBounds_toArray, List.set_cons_zero, List.set_cons_succ])
    refine tk_no 20 rfl (by kernel_rfl) (by kernel_rfl) (by kernel_rfl) (fun _ _ _ h => h) (by kernel_rfl) (by assumption) ?_; (try simp only [Act.put, List.setIfInBounds_toArray, List.set_cons_zero, List.set_cons_succ])
    refine tk_yes 21 (v := ?_) rfl (by kernel_rfl) (by kernel_rfl) (by kernel_rfl) (fun _ _ _ h => h) (by kernel_rfl) (by assumption) ?_ ?_; rotate_left; (focus (intro w hSw; (try dsimp only at hSw); go_simp; (first | done | (with_reducible rfl)))); (try simp only [Act.put, List.setIfInBounds_toArray, List.set_cons_zero, List.set_cons_succ])
    refine tk_yes 22 (v := ?_) rfl (by kernel_rfl) (by kernel_rfl) (by kernel_rfl) (fun _ _ _ h => h) (by kernel_rfl) (by assumption) ?_ ?_; rotate_left; (focus (intro w hSw; (try dsimp only at hSw); go_simp; (first | done | (with_reducible rfl)))); (try simp only [Act.put, List.setIfInBounds_toArray, List.set_cons_zero, List.set_cons_succ])
    refine wpAnyH_done (by kernel_rfl) ?_ _
    go_wp2_with fail
    exact bodyPost_ret (v := .bool false) (by simp [results, Try.results87, go_sem]) rfl ⟨rfl, HB.out.drew⟩

end Go.Proofs.Ythmjbfocpdiikaa
/-
  skip.reasons, Why, May, Next.
-/
namespace Go.Proofs.Ythmjbfocpdiikaa
open Go.RowKit
set_option linter.unusedVariables false
set_option linter.unusedSimpArgs false
attribute [local go_sem] drewN_alloc drewN_setCell

@[local go_sem] theorem run_store_fn (P : Program) (w : World) (a : Addr) (m : Mode) (f : Fn) : (store a (.func f #[] #[]) m).run P w = stored P w a (.func f #[] #[]) m := run_store P w a _ m rfl
namespace SK
open PO
/-- Which ticket goes next; -1: none. -/
def next (ts : List Tick) (ms : List Mem) (f w : Int) : Int := match (List.range ts.length).findIdx? (fun i : Nat => decide (why ts ms f w (i : Int) = 0)) with | some i => (i : Int) | none => -1
theorem next_at {ts : List Tick} {ms : List Mem} {f w : Int} {k : Nat} (hk : k < ts.length) (hn : ∀ j : Nat, j < k → why ts ms f w (j : Int) ≠ 0) (h : why ts ms f w (k : Int) = 0) : next ts ms f w = k := by
  unfold next
  have : (List.range ts.length).findIdx? (fun i : Nat => decide (why ts ms f w (i : Int) = 0)) = some k := by
    rw [List.findIdx?_eq_some_iff_getElem]
    refine ⟨by simpa using hk, by simpa using h, fun j hj => ?_⟩
    have := hn j hj
    simpa using this
  rw [this]
theorem next_none {ts : List Tick} {ms : List Mem} {f w : Int} (hn : ∀ j : Nat, j < ts.length → why ts ms f w (j : Int) ≠ 0) : next ts ms f w = -1 := by
  unfold next
  rw [List.findIdx?_eq_none_iff.2]
  intro i hi
  simpa using hn i (by simpa using hi)
end SK

def ReasonsAt (w : World) (b : Nat) : Prop := w.cell? ⟨b, 0, none⟩ = some (.int .i64 1) ∧ w.cell? ⟨b, 1, none⟩ = some (.func (.func 80) #[] #[]) ∧ w.cell? ⟨b, 2, none⟩ = some (.int .i64 2) ∧ w.cell? ⟨b, 3, none⟩ = some (.func (.func 81) #[] #[]) ∧ w.cell? ⟨b, 4, none⟩ = some (.int .i64 3) ∧ w.cell? ⟨b, 5, none⟩ = some (.func (.func 83) #[] #[]) ∧ w.cell? ⟨b, 6, none⟩ = some (.int .i64 4) ∧ w.cell? ⟨b, 7, none⟩ = some (.func (.func 86) #[] #[]) ∧ w.cell? ⟨b, 8, none⟩ = some (.int .i64 5) ∧ w.cell? ⟨b, 9, none⟩ = some (.func (.func 87) #[] #[])
theorem ReasonsAt.keep {w w' : World} {b B : Nat} (h : ReasonsAt w b) (k : Below B w w') (hb : b < B) : ReasonsAt w' b := by
  obtain ⟨x0, x1, x2, x3, x4, x5, x6, x7, x8, x9⟩ := h
  exact ⟨(k.cell hb).trans x0, (k.cell hb).trans x1, (k.cell hb).trans x2, (k.cell hb).trans x3, (k.cell hb).trans x4, (k.cell hb).trans x5, (k.cell hb).trans x6, (k.cell hb).trans x7, (k.cell hb).trans x8, (k.cell hb).trans x9⟩
def GivesReasons (w : World) (e : Ending) (w' : World) : Prop := ∃ b, e = .returned (.slice (some ⟨b, 0, none⟩) 5 5) ∧ w.heap.size ≤ b ∧ b < w'.heap.size ∧ ReasonsAt w' b ∧ Below w.heap.size w w'

set_option maxHeartbeats 2000000 in
theorem skip_reasons (w : World) :
    Calls Try.prog 64 #[] w fun e w' => GivesReasons w e w' := by
  go_enter Try.func64, Try.ntmps64
  go_wp2_with fail
  exact bodyPost_ret (v := .slice (some ⟨w.heap.size, 0, none⟩) 5 5) (by simp [results, Try.results64, go_sem]) rfl ⟨_, rfl, Nat.le_refl _, by simp, by unfold ReasonsAt; refine ⟨?_, ?_, ?_, ?_, ?_, ?_, ?_, ?_, ?_, ?_⟩ <;> simp [go_sem], (by repeat (first | exact Below.refl _ _ | assumption | refine bel_drew ?_ | refine bel_drewN ?_ _ | refine bel_alloc ?_ _ | refine bel_set ?_ (by first | (dsimp only; omega) | (simp; done) | (simp; omega)) _ | refine bel_trans ?_ (by assumption)))⟩

theorem why_parts {TA MA : Option Addr} {tn mn : Nat} {ts : List SK.Tick} {ms : List PO.Mem} (tc mc : Nat) (f wt a : Int) {w : World} (h : TickAt w TA tn ts) (hm : MemAt w MA mn ms) (hn : mn ≤ 1000) (bf : -9223372036854775808 ≤ f ∧ f ≤ 9223372036854775807) (bw : -9223372036854775808 ≤ wt ∧ wt ≤ 9223372036854775807) (htc : tn ≤ tc) (hcm : tc ≤ 9223372036854775807) :
    ∃ r1 r2 r3 r4 r5 : Bool, SK.why ts ms f wt a = (if r1 = true then 1 else if r2 = true then 2 else if r3 = true then 3 else if r4 = true then 4 else if r5 = true then 5 else 0) ∧
      (∀ W, Below w.heap.size w W → Calls Try.prog 80 #[.agg #[.slice TA tn tc, .slice MA mn mc, .int .i64 f, .int .i64 wt], .int .i64 a] W fun e w' => e = .returned (.bool r1) ∧ Below W.heap.size W w') ∧ (r1 = false → (∀ W, Below w.heap.size w W → Calls Try.prog 81 #[.agg #[.slice TA tn tc, .slice MA mn mc, .int .i64 f, .int .i64 wt], .int .i64 a] W fun e w' => e = .returned (.bool r2) ∧ Below W.heap.size W w')) ∧ (r1 = false → r2 = false → (∀ W, Below w.heap.size w W → Calls Try.prog 83 #[.agg #[.slice TA tn tc, .slice MA mn mc, .int .i64 f, .int .i64 wt], .int .i64 a] W fun e w' => e = .returned (.bool r3) ∧ Below W.heap.size W w')) ∧ (r1 = false → r2 = false → (∀ W, Below w.heap.size w W → Calls Try.prog 86 #[.agg #[.slice TA tn tc, .slice MA mn mc, .int .i64 f, .int .i64 wt], .int .i64 a] W fun e w' => e = .returned (.bool r4) ∧ Below W.heap.size W w')) ∧ (r1 = false → r2 = false → (∀ W, Below w.heap.size w W → Calls Try.prog 87 #[.agg #[.slice TA tn tc, .slice MA mn mc, .int .i64 f, .int .i64 wt], .int .i64 a] W fun e w' => e = .returned (.bool r5) ∧ Below W.heap.size W w')) := by
  have hl := h.1
  have hlm := hm.1
  by_cases h1 : a < 0 ∨ (tn : Int) ≤ a
  · refine ⟨true, false, false, false, false, ?_, fun W hW => ?_, nofun, nofun, nofun, nofun⟩
    · unfold SK.why; rw [if_pos (by rw [hl]; exact h1)]; rfl
    · have := reason1 TA MA tn tc mn mc f wt a W
      rwa [decide_eq_true h1] at this
  obtain ⟨k, rfl⟩ : ∃ k : Nat, a = k := ⟨a.toNat, by omega⟩
  have hk : k < tn := by omega
  have e0 : SK.why ts ms f wt (k : Int) = (if SK.member ms (SK.cl ts k) < 0 then 2 else if SK.ahead ts k = true then 3 else if PO.bmay f wt ms (SK.member ms (SK.cl ts k)) (ts.getD k SK.t0).2.2.1 = false then 4 else if 0 < (k : Int) ∧ (ms.getD (SK.member ms (SK.cl ts k)).toNat PO.m0).2.2.1 = 0 ∧ 8 ≤ (ts.getD 0 SK.t0).2.2.2.2 then 5 else 0) := by
    unfold SK.why; rw [if_neg (by rw [hl]; exact h1)]; rfl
  have c1 : ∀ W, Below w.heap.size w W → Calls Try.prog 80 #[.agg #[.slice TA tn tc, .slice MA mn mc, .int .i64 f, .int .i64 wt], .int .i64 (k : Int)] W fun e w' => e = .returned (.bool false) ∧ Below W.heap.size W w' := fun W hW => by
    have := reason1 TA MA tn tc mn mc f wt k W
    rwa [decide_eq_false h1] at this
  by_cases h2 : SK.member ms (SK.cl ts k) < 0
  · refine ⟨false, true, false, false, false, ?_, c1, fun _ W hW => ?_, fun _ => nofun, fun _ => nofun, fun _ => nofun⟩
    · rw [e0, if_pos h2]; rfl
    · have := reason2 tc mc k f wt (h.keep hW) (hm.keep hW) hk
      rwa [decide_eq_true h2] at this
  obtain ⟨j, hj, hjm⟩ := SK.idx_lt (p := fun m => decide (m.1 = SK.cl ts k)) (l := ms) (by unfold SK.member at h2; omega)
  have hj' : SK.member ms (SK.cl ts k) = (j : Int) := hj
  refine ⟨false, false, SK.ahead ts k, !(PO.bmay f wt ms (SK.member ms (SK.cl ts k)) (ts.getD k SK.t0).2.2.1), (decide (0 < (k : Int)) && (decide ((ms.getD j PO.m0).2.2.1 = 0) && decide (8 ≤ (ts.getD 0 SK.t0).2.2.2.2))), ?_, c1, fun _ W hW => ?_, fun _ _ W hW => ?_, fun _ _ W hW => ?_, fun _ _ W hW => ?_⟩
  · rw [e0, if_neg h2, hj']
    simp only [reduceIte, Bool.false_eq_true, Int.toNat_natCast, Bool.and_eq_true, decide_eq_true_eq, Bool.not_eq_true']
  · have := reason2 tc mc k f wt (h.keep hW) (hm.keep hW) hk
    rwa [decide_eq_false h2] at this
  · exact reason3 tc mn mc k f wt (h.keep hW) hk htc hcm
  · exact reason4 tc mc k f wt (h.keep hW) (hm.keep hW) hk hn bf bw
  · exact reason5 tc mc k j f wt (h.keep hW) (hm.keep hW) hk hj' (by omega)

def WhyRel (w : World) (r1 r2 r3 r4 r5 : Bool) (i : Value) (wr : World) : Prop :=
  ∃ k : Nat, k ≤ 5 ∧ i = .int .i64 k ∧ (1 ≤ k → r1 = false) ∧ (2 ≤ k → r2 = false) ∧ (3 ≤ k → r3 = false) ∧ (4 ≤ k → r4 = false) ∧ (5 ≤ k → r5 = false) ∧ Below w.heap.size w wr

set_option maxRecDepth 100000 in
set_option maxHeartbeats 8000000 in
theorem skip_Why {TA MA : Option Addr} {tn mn : Nat} {ts : List SK.Tick} {ms : List PO.Mem} (tc mc : Nat) (f wt a : Int) {w : World} (h : TickAt w TA tn ts) (hm : MemAt w MA mn ms) (hn : mn ≤ 1000) (bf : -9223372036854775808 ≤ f ∧ f ≤ 9223372036854775807) (bw : -9223372036854775808 ≤ wt ∧ wt ≤ 9223372036854775807) (htc : tn ≤ tc) (hcm : tc ≤ 9223372036854775807) :
    Calls Try.prog 32 #[.slice TA tn tc, .int .i64 a, .int .i64 f, .int .i64 wt, .slice MA mn mc] w fun e w' => e = .returned (.int .i64 (SK.why ts ms f wt a)) ∧ Below w.heap.size w w' := by
  obtain ⟨r1, r2, r3, r4, r5, ew, K1, K2, K3, K4, K5⟩ := why_parts tc mc f wt a h hm hn bf bw htc hcm
  generalize SK.why ts ms f wt a = Y at *
  replace K1 := Lib.hid K1
  replace K2 := Lib.hid K2
  replace K3 := Lib.hid K3
  replace K4 := Lib.hid K4
  replace K5 := Lib.hid K5
  replace ew := Lib.hid ew
  clear h hm
  go_enter Try.func32, Try.ntmps32
  go_wp2_with fail
  refine (skip_reasons _).mono ?_
  rintro e w1 ⟨b, rfl, hb1, hb2, hrs, h1⟩
  have sp : w.heap.size < w1.heap.size := by have := h1.size; simp at this; omega
  have c0 : w1.cell? ⟨w.heap.size, 0, none⟩ = some (.slice TA tn tc) := (h1.cell (p := ⟨w.heap.size, 0, none⟩) (by simp)).trans (by simp [go_sem])
  have c1 : w1.cell? ⟨w.heap.size, 1, none⟩ = some (.slice MA mn mc) := (h1.cell (p := ⟨w.heap.size, 1, none⟩) (by simp)).trans (by simp [go_sem])
  have c2 : w1.cell? ⟨w.heap.size, 2, none⟩ = some (.int .i64 f) := (h1.cell (p := ⟨w.heap.size, 2, none⟩) (by simp)).trans (by simp [go_sem])
  have c3 : w1.cell? ⟨w.heap.size, 3, none⟩ = some (.int .i64 wt) := (h1.cell (p := ⟨w.heap.size, 3, none⟩) (by simp)).trans (by simp [go_sem])
  have hb01 : Below w.heap.size w w1 := bel_trans' (show Below w.heap.size w (w.alloc (.cells #[.slice TA tn tc, .slice MA mn mc, .int .i64 f, .int .i64 wt] 79)) from (by repeat (first | exact Below.refl _ _ | assumption | refine bel_drew ?_ | refine bel_drewN ?_ _ | refine bel_alloc ?_ _ | refine bel_set ?_ (by first | (dsimp only; omega) | (simp; done) | (simp; omega)) _ | refine bel_trans ?_ (by assumption)))) h1 (by simp)
  clear h1
  replace hrs := Lib.hid hrs
  replace c0 := Lib.hid c0
  replace c1 := Lib.hid c1
  replace c2 := Lib.hid c2
  replace c3 := Lib.hid c3
  have HB := Lib.hid hb01
  clear hb01
  go_wp2_with fail
  go_loopw [21] (fun i wr => WhyRel w1 r1 r2 r3 r4 r5 i wr) (fun i _ => 5 - (intOf i).toNat)
  case atStart => exact ⟨0, by omega, rfl, fun h => by omega, fun h => by omega, fun h => by omega, fun h => by omega, fun h => by omega, Below.refl _ _⟩
  case round =>
    obtain ⟨k, hk, rfl, q1, q2, q3, q4, q5, hbel⟩ := hrel
    have d0 := (hbel.cell (p := ⟨w.heap.size, 0, none⟩) sp).trans c0.out
    have d1 := (hbel.cell (p := ⟨w.heap.size, 1, none⟩) sp).trans c1.out
    have d2 := (hbel.cell (p := ⟨w.heap.size, 2, none⟩) sp).trans c2.out
    have d3 := (hbel.cell (p := ⟨w.heap.size, 3, none⟩) sp).trans c3.out
    have spr : w.heap.size < wr.heap.size := Nat.lt_of_lt_of_le sp hbel.size
    have spn : ¬ w.heap.size = wr.heap.size := by omega
    have hbr : b < wr.heap.size := Nat.lt_of_lt_of_le hb2 hbel.size
    have bw1 : Below w.heap.size w wr := bel_trans' HB.out hbel (by omega)
    obtain rfl | rfl | rfl | rfl | rfl | rfl : k = 0 ∨ k = 1 ∨ k = 2 ∨ k = 3 ∨ k = 4 ∨ k = 5 := by omega
    · skip
      obtain ⟨y0, y1, y2, y3, y4, y5, y6, y7, y8, y9⟩ := hrs.out.keep hbel hb2
      have KK := Lib.hid (K1.out )
      rcases r1 with _ | _
      · clear q1 q2 q3 q4 q5
        go_wp2_with fail
        refine (KK.out _ (by exact (by repeat (first | exact Below.refl _ _ | assumption | refine bel_drew ?_ | refine bel_drewN ?_ _ | refine bel_alloc ?_ _ | refine bel_set ?_ (by first | (dsimp only; omega) | (simp; done) | (simp; omega)) _ | refine bel_trans ?_ (by assumption))))).mono ?_
        rintro e w2 ⟨rfl, h2⟩
        go_wp2_with fail
        go_roundw
        case rel => exact ⟨1, by omega, by go_num, fun _ => rfl, fun h => absurd h (by omega), fun h => absurd h (by omega), fun h => absurd h (by omega), fun h => absurd h (by omega), (by repeat (first | exact Below.refl _ _ | assumption | refine bel_drew ?_ | refine bel_drewN ?_ _ | refine bel_alloc ?_ _ | refine bel_set ?_ (by first | (dsimp only; omega) | (simp; done) | (simp; omega)) _ | refine bel_trans ?_ (by assumption)))⟩
        case measure => simp [intOf]
      · have HE : Hid ((1 : Int) = Y) := Lib.hid (by rw [ew.out]; rfl)
        clear q1 q2 q3 q4 q5
        go_wp2_with fail
        refine (KK.out _ (by exact (by repeat (first | exact Below.refl _ _ | assumption | refine bel_drew ?_ | refine bel_drewN ?_ _ | refine bel_alloc ?_ _ | refine bel_set ?_ (by first | (dsimp only; omega) | (simp; done) | (simp; omega)) _ | refine bel_trans ?_ (by assumption))))).mono ?_
        rintro e w2 ⟨rfl, h2⟩
        have x0 : w2.cell? ⟨wr.heap.size, 0, none⟩ = some (.int .i64 1) := (h2.cell (p := ⟨wr.heap.size, 0, none⟩) (by simp)).trans (by simp [go_sem])
        go_wp2_with fail
        go_ret
        exact ⟨ret_int HE.out, (by repeat (first | exact Below.refl _ _ | assumption | refine bel_drew ?_ | refine bel_drewN ?_ _ | refine bel_alloc ?_ _ | refine bel_set ?_ (by first | (dsimp only; omega) | (simp; done) | (simp; omega)) _ | refine bel_trans ?_ (by assumption)))⟩
    · have z1 := q1 (by omega)
      obtain ⟨y0, y1, y2, y3, y4, y5, y6, y7, y8, y9⟩ := hrs.out.keep hbel hb2
      have KK := Lib.hid (K2.out z1)
      rcases r2 with _ | _
      · clear q1 q2 q3 q4 q5
        go_wp2_with fail
        refine (KK.out _ (by exact (by repeat (first | exact Below.refl _ _ | assumption | refine bel_drew ?_ | refine bel_drewN ?_ _ | refine bel_alloc ?_ _ | refine bel_set ?_ (by first | (dsimp only; omega) | (simp; done) | (simp; omega)) _ | refine bel_trans ?_ (by assumption))))).mono ?_
        rintro e w2 ⟨rfl, h2⟩
        go_wp2_with fail
        go_roundw
        case rel => exact ⟨2, by omega, by go_num, fun _ => z1, fun _ => rfl, fun h => absurd h (by omega), fun h => absurd h (by omega), fun h => absurd h (by omega), (by repeat (first | exact Below.refl _ _ | assumption | refine bel_drew ?_ | refine bel_drewN ?_ _ | refine bel_alloc ?_ _ | refine bel_set ?_ (by first | (dsimp only; omega) | (simp; done) | (simp; omega)) _ | refine bel_trans ?_ (by assumption)))⟩
        case measure => simp [intOf]
      · have HE : Hid ((2 : Int) = Y) := Lib.hid (by rw [ew.out, z1]; rfl)
        clear q1 q2 q3 q4 q5
        go_wp2_with fail
        refine (KK.out _ (by exact (by repeat (first | exact Below.refl _ _ | assumption | refine bel_drew ?_ | refine bel_drewN ?_ _ | refine bel_alloc ?_ _ | refine bel_set ?_ (by first | (dsimp only; omega) | (simp; done) | (simp; omega)) _ | refine bel_trans ?_ (by assumption))))).mono ?_
        rintro e w2 ⟨rfl, h2⟩
        have x0 : w2.cell? ⟨wr.heap.size, 0, none⟩ = some (.int .i64 2) := (h2.cell (p := ⟨wr.heap.size, 0, none⟩) (by simp)).trans (by simp [go_sem])
        go_wp2_with fail
        go_ret
        exact ⟨ret_int HE.out, (by repeat (first | exact Below.refl _ _ | assumption | refine bel_drew ?_ | refine bel_drewN ?_ _ | refine bel_alloc ?_ _ | refine bel_set ?_ (by first | (dsimp only; omega) | (simp; done) | (simp; omega)) _ | refine bel_trans ?_ (by assumption)))⟩
    · have z1 := q1 (by omega)
      have z2 := q2 (by omega)
      obtain ⟨y0, y1, y2, y3, y4, y5, y6, y7, y8, y9⟩ := hrs.out.keep hbel hb2
      have KK := Lib.hid (K3.out z1 z2)
      rcases r3 with _ | _
      · clear q1 q2 q3 q4 q5
        go_wp2_with fail
        refine (KK.out _ (by exact (by repeat (first | exact Below.refl _ _ | assumption | refine bel_drew ?_ | refine bel_drewN ?_ _ | refine bel_alloc ?_ _ | refine bel_set ?_ (by first | (dsimp only; omega) | (simp; done) | (simp; omega)) _ | refine bel_trans ?_ (by assumption))))).mono ?_
        rintro e w2 ⟨rfl, h2⟩
        go_wp2_with fail
        go_roundw
        case rel => exact ⟨3, by omega, by go_num, fun _ => z1, fun _ => z2, fun _ => rfl, fun h => absurd h (by omega), fun h => absurd h (by omega), (by repeat (first | exact Below.refl _ _ | assumption | refine bel_drew ?_ | refine bel_drewN ?_ _ | refine bel_alloc ?_ _ | refine bel_set ?_ (by first | (dsimp only; omega) | (simp; done) | (simp; omega)) _ | refine bel_trans ?_ (by assumption)))⟩
        case measure => simp [intOf]
      · have HE : Hid ((3 : Int) = Y) := Lib.hid (by rw [ew.out, z1, z2]; rfl)
        clear q1 q2 q3 q4 q5
        go_wp2_with fail
        refine (KK.out _ (by exact (by repeat (first | exact Below.refl _ _ | assumption | refine bel_drew ?_ | refine bel_drewN ?_ _ | refine bel_alloc ?_ _ | refine bel_set ?_ (by first | (dsimp only; omega) | (simp; done) | (simp; omega)) _ | refine bel_trans ?_ (by assumption))))).mono ?_
        rintro e w2 ⟨rfl, h2⟩
        have x0 : w2.cell? ⟨wr.heap.size, 0, none⟩ = some (.int .i64 3) := (h2.cell (p := ⟨wr.heap.size, 0, none⟩) (by simp)).trans (by simp [go_sem])
        go_wp2_with fail
        go_ret
        exact ⟨ret_int HE.out, (by repeat (first | exact Below.refl _ _ | assumption | refine bel_drew ?_ | refine bel_drewN ?_ _ | refine bel_alloc ?_ _ | refine bel_set ?_ (by first | (dsimp only; omega) | (simp; done) | (simp; omega)) _ | refine bel_trans ?_ (by assumption)))⟩
    · have z1 := q1 (by omega)
      have z2 := q2 (by omega)
      have z3 := q3 (by omega)
      obtain ⟨y0, y1, y2, y3, y4, y5, y6, y7, y8, y9⟩ := hrs.out.keep hbel hb2
      have KK := Lib.hid (K4.out z1 z2)
      rcases r4 with _ | _
      · clear q1 q2 q3 q4 q5
        go_wp2_with fail
        refine (KK.out _ (by exact (by repeat (first | exact Below.refl _ _ | assumption | refine bel_drew ?_ | refine bel_drewN ?_ _ | refine bel_alloc ?_ _ | refine bel_set ?_ (by first | (dsimp only; omega) | (simp; done) | (simp; omega)) _ | refine bel_trans ?_ (by assumption))))).mono ?_
        rintro e w2 ⟨rfl, h2⟩
        go_wp2_with fail
        go_roundw
        case rel => exact ⟨4, by omega, by go_num, fun _ => z1, fun _ => z2, fun _ => z3, fun _ => rfl, fun h => absurd h (by omega), (by repeat (first | exact Below.refl _ _ | assumption | refine bel_drew ?_ | refine bel_drewN ?_ _ | refine bel_alloc ?_ _ | refine bel_set ?_ (by first | (dsimp only; omega) | (simp; done) | (simp; omega)) _ | refine bel_trans ?_ (by assumption)))⟩
        case measure => simp [intOf]
      · have HE : Hid ((4 : Int) = Y) := Lib.hid (by rw [ew.out, z1, z2, z3]; rfl)
        clear q1 q2 q3 q4 q5
        go_wp2_with fail
        refine (KK.out _ (by exact (by repeat (first | exact Below.refl _ _ | assumption | refine bel_drew ?_ | refine bel_drewN ?_ _ | refine bel_alloc ?_ _ | refine bel_set ?_ (by first | (dsimp only; omega) | (simp; done) | (simp; omega)) _ | refine bel_trans ?_ (by assumption))))).mono ?_
        rintro e w2 ⟨rfl, h2⟩
        have x0 : w2.cell? ⟨wr.heap.size, 0, none⟩ = some (.int .i64 4) := (h2.cell (p := ⟨wr.heap.size, 0, none⟩) (by simp)).trans (by simp [go_sem])
        go_wp2_with fail
        go_ret
        exact ⟨ret_int HE.out, (by repeat (first | exact Below.refl _ _ | assumption | refine bel_drew ?_ | refine bel_drewN ?_ _ | refine bel_alloc ?_ _ | refine bel_set ?_ (by first | (dsimp only; omega) | (simp; done) | (simp; omega)) _ | refine bel_trans ?_ (by assumption)))⟩
    · have z1 := q1 (by omega)
      have z2 := q2 (by omega)
      have z3 := q3 (by omega)
      have z4 := q4 (by omega)
      obtain ⟨y0, y1, y2, y3, y4, y5, y6, y7, y8, y9⟩ := hrs.out.keep hbel hb2
      have KK := Lib.hid (K5.out z1 z2)
      rcases r5 with _ | _
      · clear q1 q2 q3 q4 q5
        go_wp2_with fail
        refine (KK.out _ (by exact (by repeat (first | exact Below.refl _ _ | assumption | refine bel_drew ?_ | refine bel_drewN ?_ _ | refine bel_alloc ?_ _ | refine bel_set ?_ (by first | (dsimp only; omega) | (simp; done) | (simp; omega)) _ | refine bel_trans ?_ (by assumption))))).mono ?_
        rintro e w2 ⟨rfl, h2⟩
        go_wp2_with fail
        go_roundw
        case rel => exact ⟨5, by omega, by go_num, fun _ => z1, fun _ => z2, fun _ => z3, fun _ => z4, fun _ => rfl, (by repeat (first | exact Below.refl _ _ | assumption | refine bel_drew ?_ | refine bel_drewN ?_ _ | refine bel_alloc ?_ _ | refine bel_set ?_ (by first | (dsimp only; omega) | (simp; done) | (simp; omega)) _ | refine bel_trans ?_ (by assumption)))⟩
        case measure => simp [intOf]
      · have HE : Hid ((5 : Int) = Y) := Lib.hid (by rw [ew.out, z1, z2, z3, z4]; rfl)
        clear q1 q2 q3 q4 q5
        go_wp2_with fail
        refine (KK.out _ (by exact (by repeat (first | exact Below.refl _ _ | assumption | refine bel_drew ?_ | refine bel_drewN ?_ _ | refine bel_alloc ?_ _ | refine bel_set ?_ (by first | (dsimp only; omega) | (simp; done) | (simp; omega)) _ | refine bel_trans ?_ (by assumption))))).mono ?_
        rintro e w2 ⟨rfl, h2⟩
        have x0 : w2.cell? ⟨wr.heap.size, 0, none⟩ = some (.int .i64 5) := (h2.cell (p := ⟨wr.heap.size, 0, none⟩) (by simp)).trans (by simp [go_sem])
        go_wp2_with fail
        go_ret
        exact ⟨ret_int HE.out, (by repeat (first | exact Below.refl _ _ | assumption | refine bel_drew ?_ | refine bel_drewN ?_ _ | refine bel_alloc ?_ _ | refine bel_set ?_ (by first | (dsimp only; omega) | (simp; done) | (simp; omega)) _ | refine bel_trans ?_ (by assumption)))⟩
    · obtain ⟨z1, z2, z3, z4, z5⟩ : r1 = false ∧ r2 = false ∧ r3 = false ∧ r4 = false ∧ r5 = false := ⟨q1 (by omega), q2 (by omega), q3 (by omega), q4 (by omega), q5 (by omega)⟩
      have HE : Hid ((0 : Int) = Y) := Lib.hid (by rw [ew.out, z1, z2, z3, z4, z5]; rfl)
      clear q1 q2 q3 q4 q5
      go_wp2_with fail
      go_ret
      exact ⟨ret_int HE.out, (by repeat (first | exact Below.refl _ _ | assumption | refine bel_drew ?_ | refine bel_drewN ?_ _ | refine bel_alloc ?_ _ | refine bel_set ?_ (by first | (dsimp only; omega) | (simp; done) | (simp; omega)) _ | refine bel_trans ?_ (by assumption)))⟩


theorem skip_May {TA MA : Option Addr} {tn mn : Nat} {ts : List SK.Tick} {ms : List PO.Mem} (tc mc : Nat) (f wt a : Int) {w : World} (h : TickAt w TA tn ts) (hm : MemAt w MA mn ms) (hn : mn ≤ 1000) (bf : -9223372036854775808 ≤ f ∧ f ≤ 9223372036854775807) (bw : -9223372036854775808 ≤ wt ∧ wt ≤ 9223372036854775807) (htc : tn ≤ tc) (hcm : tc ≤ 9223372036854775807) :
    Calls Try.prog 33 #[.slice TA tn tc, .int .i64 a, .int .i64 f, .int .i64 wt, .slice MA mn mc] w fun e w' => e = .returned (.bool (decide (SK.why ts ms f wt a = 0))) ∧ Below w.heap.size w w' := by
  have K := Lib.hid (skip_Why tc mc f wt a h hm hn bf bw htc hcm)
  generalize SK.why ts ms f wt a = Y at *
  clear h hm
  go_enter Try.func33, Try.ntmps33
  go_wp2_with fail
  refine K.out.mono ?_
  rintro e w1 ⟨rfl, h1⟩
  go_wp2_with fail
  exact bodyPost_ret (v := .bool (Y == 0)) (by simp [results, Try.results33, go_sem]) rfl ⟨ret_bool (by rw [Bool.eq_iff_iff]; simp), (by repeat (first | exact Below.refl _ _ | assumption | refine bel_drew ?_ | refine bel_drewN ?_ _ | refine bel_alloc ?_ _ | refine bel_set ?_ (by first | (dsimp only; omega) | (simp; done) | (simp; omega)) _ | refine bel_trans ?_ (by assumption)))⟩

def SNextRel (w : World) (ts : List SK.Tick) (ms : List PO.Mem) (f wt : Int) (n : Nat) (i : Value) (wr : World) : Prop :=
  ∃ k : Nat, k ≤ n ∧ i = .int .i64 k ∧ (∀ j : Nat, j < k → SK.why ts ms f wt (j : Int) ≠ 0) ∧ Below w.heap.size w wr
set_option maxHeartbeats 4000000 in
theorem skip_Next {TA MA : Option Addr} {tn mn : Nat} {ts : List SK.Tick} {ms : List PO.Mem} (tc mc : Nat) (f wt : Int) {w : World} (h : TickAt w TA tn ts) (hm : MemAt w MA mn ms) (hn : mn ≤ 1000) (bf : -9223372036854775808 ≤ f ∧ f ≤ 9223372036854775807) (bw : -9223372036854775808 ≤ wt ∧ wt ≤ 9223372036854775807) (htc : tn ≤ tc) (hcm : tc ≤ 9223372036854775807) :
    Calls Try.prog 34 #[.slice TA tn tc, .int .i64 f, .int .i64 wt, .slice MA mn mc] w fun e w' => e = .returned (.int .i64 (SK.next ts ms f wt)) ∧ Below w.heap.size w w' := by
  obtain ⟨Y, hY⟩ : ∃ Y, SK.next ts ms f wt = Y := ⟨_, rfl⟩
  rw [hY]
  have HY := Lib.hid hY
  have HX := Lib.hid h.1
  have HN := h.2.1
  have K : Hid (∀ a W, Below w.heap.size w W → Calls Try.prog 33 #[.slice TA tn tc, .int .i64 a, .int .i64 f, .int .i64 wt, .slice MA mn mc] W fun e w' => e = .returned (.bool (decide (SK.why ts ms f wt a = 0))) ∧ Below W.heap.size W w') := Lib.hid (fun a W hW => skip_May tc mc f wt a (h.keep hW) (hm.keep hW) hn bf bw htc hcm)
  clear hY h hm
  go_enter Try.func34, Try.ntmps34
  go_wp2_with fail
  go_loopw [12] (fun i wr => SNextRel w ts ms f wt tn i wr) (fun i _ => tn - (intOf i).toNat)
  case atStart => exact ⟨0, Nat.zero_le _, rfl, fun j hj => absurd hj (by omega), Below.refl _ _⟩
  case round =>
    obtain ⟨k, hk, rfl, hnot, hbel⟩ := hrel
    have HNOT := Lib.hid hnot
    clear hnot
    have j1 : (0 : Int) ≤ (k : Int) := by omega
    by_cases hlt : (k : Int) < tn
    · have KP := Lib.hid (K.out (k : Int) wr hbel)
      by_cases hq : SK.why ts ms f wt (k : Int) = 0
      · rw [decide_eq_true hq] at KP
        have HE : Hid ((k : Int) = Y) := Lib.hid ((SK.next_at (by rw [HX.out]; omega) HNOT.out hq).symm.trans HY.out)
        clear hq
        go_wp2_with fail
        refine KP.out.mono ?_
        rintro e w1 ⟨rfl, h1⟩
        go_wp2_with fail
        go_ret
        exact ⟨ret_int HE.out, (by repeat (first | exact Below.refl _ _ | assumption | refine bel_drew ?_ | refine bel_drewN ?_ _ | refine bel_alloc ?_ _ | refine bel_set ?_ (by first | (dsimp only; omega) | (simp; done) | (simp; omega)) _ | refine bel_trans ?_ (by assumption)))⟩
      · rw [decide_eq_false hq] at KP
        have HE : Hid (∀ j : Nat, j < k + 1 → SK.why ts ms f wt (j : Int) ≠ 0) := Lib.hid (fun j hj => by
          rcases Nat.lt_or_ge j k with h1 | h1
          · exact HNOT.out j h1
          · obtain rfl : j = k := by omega
            exact hq)
        clear hq
        go_wp2_with fail
        refine KP.out.mono ?_
        rintro e w1 ⟨rfl, h1⟩
        go_wp2_with fail
        go_roundw
        case rel => exact ⟨k + 1, by omega, by go_num, HE.out, (by repeat (first | exact Below.refl _ _ | assumption | refine bel_drew ?_ | refine bel_drewN ?_ _ | refine bel_alloc ?_ _ | refine bel_set ?_ (by first | (dsimp only; omega) | (simp; done) | (simp; omega)) _ | refine bel_trans ?_ (by assumption)))⟩
        case measure => simp [intOf]; omega
    · have HE : Hid ((-1 : Int) = Y) := Lib.hid ((SK.next_none (fun j hj => HNOT.out j (by rw [HX.out] at hj; omega))).symm.trans HY.out)
      go_wp2_with fail
      go_ret
      exact ⟨ret_int HE.out, (by repeat (first | exact Below.refl _ _ | assumption | refine bel_drew ?_ | refine bel_drewN ?_ _ | refine bel_alloc ?_ _ | refine bel_set ?_ (by first | (dsimp only; omega) | (simp; done) | (simp; omega)) _ | refine bel_trans ?_ (by assumption)))⟩

end Go.Proofs.Ythmjbfocpdiikaa
