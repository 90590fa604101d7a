/-
  order.Spare, First and their references.
-/
import Derived.Test.YthmjbfocpdiikaaPlainOrd2
import Derived.Test.YthmjbfocpdiikaaOrdF
namespace Go.Proofs.Ythmjbfocpdiikaa
open Go.RowKit
set_option linter.unusedVariables false
set_option linter.unusedSimpArgs false
attribute [local go_sem] drewN_alloc drewN_setCell

def GivesSpare (w : World) (f : Int) (l : List PO.Mem) (e : Ending) (w' : World) : Prop := ∃ A n c, e = .returned (.slice A n c) ∧ IntsAt w' A n (PO.spare f l) ∧ Below w.heap.size w w'
theorem sum_bd {l : List PO.Mem} (ha : l.all PO.ok = true) {d : List Nat} (hn : d.Nodup) (hl : ∀ x ∈ d, x < l.length) : 0 ≤ PO.sumH l d ∧ PO.sumH l d ≤ 1048576 * (l.length : Int) := by
  refine ⟨PO.sumH_nonneg ha hl, ?_⟩
  have h1 := PO.sumH_sub ha hn (b := List.range l.length) (fun x hx => by simpa using hx) (fun x hx => by simpa using hl x hx)
  have h2 := (sumH_le ha l.length (Nat.le_refl _)).2
  omega
def SpareRel (w : World) (l : List PO.Mem) (f0 : Int) (o : List Nat) (d n : Nat) (fv i : Value) (wr : World) : Prop :=
  ∃ k : Nat, k ≤ n ∧ i = .int .i64 k ∧ fv = .int .i64 (f0 + PO.sumH l (o.take k)) ∧ (∀ j, j < n → wr.cell? ⟨d, j, none⟩ = some (.int .i64 (if j ∈ o.take k then PO.spareGo l f0 o j else 0))) ∧ (∀ j, wr.frozen? ⟨d, j, none⟩ = false) ∧
    (∀ j, j ∉ o.take k → PO.spareGo l f0 o j = PO.spareGo l (f0 + PO.sumH l (o.take k)) (o.drop k) j) ∧ Below w.heap.size w wr ∧ d < wr.heap.size
theorem spare_store {w : World} {d n k : Nat} {l : List PO.Mem} {f0 : Int} {o : List Nat} (hk : k < o.length) (hx : o.getD k 0 < n)
    (h : ∀ j, j < n → w.cell? ⟨d, j, none⟩ = some (.int .i64 (if j ∈ o.take k then PO.spareGo l f0 o j else 0))) :
    ∀ j, j < n → (w.setCell ⟨d, o.getD k 0, none⟩ (.int .i64 (PO.spareGo l f0 o (o.getD k 0)))).cell? ⟨d, j, none⟩ = some (.int .i64 (if j ∈ o.take (k + 1) then PO.spareGo l f0 o j else 0)) := fun j hj => by
  by_cases e : j = o.getD k 0
  · subst e
    rw [World.cell?_setCell_same _ _ _ (h _ hj), if_pos ((PO.take_mem hk _).2 (.inr rfl))]
  · rw [World.cell?_setCell_other _ _ _ _ (by simp; exact fun h => e h.symm), h j hj]
    by_cases h1 : j ∈ o.take k
    · rw [if_pos h1, if_pos ((PO.take_mem hk _).2 (.inl h1))]
    · rw [if_neg h1, if_neg (fun h2 => by rcases (PO.take_mem hk _).1 h2 with h3 | h3; exact h1 h3; exact e h3)]

set_option maxRecDepth 100000 in
set_option maxHeartbeats 8000000 in
theorem order_Spare {A : Option Addr} {n : Nat} {l : List PO.Mem} (c : Nat) (f : Int) {w : World} (h : MemAt w A n l) (hn : n ≤ 1000) :
    Calls Try.prog 53 #[.int .i64 f, .slice A n c] w (GivesSpare w f l) := by
  have hl := h.1
  have K1 := order_Order c f h hn
  have es : (PO.order f l).2 = PO.safe f l := rfl
  rw [es] at K1
  cases hs : PO.safe f l
  · have HG : Hid (∀ W, Below w.heap.size w W → GivesSpare w f l (.returned (.slice none 0 0)) W) := Lib.hid (fun W hW => ⟨none, 0, 0, rfl, by unfold PO.spare; rw [hs, if_neg (by simp)]; exact IntsAt.nil, hW⟩)
    rw [hs] at K1
    replace K1 := Lib.hid K1
    clear h hs es
    go_enter Try.func53, Try.ntmps53
    go_wp2_with fail
    refine K1.out.mono ?_
    rintro e w1 ⟨v, rfl, ov, h1⟩
    clear ov
    go_wp2_with fail
    go_ret
    exact HG.out _ h1
  · obtain ⟨f0, f1, fa⟩ := PO.may_iff.1 (PO.safe_may hs)
    obtain ⟨eo, hon⟩ := PO.order_yes hs
    obtain ⟨q1, q2, q3, _⟩ := PO.takenAll_spec (PO.safe_may hs)
    rw [eo, hs] at K1
    have hfin : Hid (∀ W d, (∀ j, j < n → W.cell? ⟨d, j, none⟩ = some (.int .i64 (if j ∈ PO.takenAll f l then PO.spareGo l f (PO.takenAll f l) j else 0))) → d < W.heap.size → Below w.heap.size w W → GivesSpare w f l (.returned (.slice (some ⟨d, 0, none⟩) n n)) W) := Lib.hid (fun W d hc hd hW => by
      refine ⟨_, n, n, rfl, ⟨by rw [PO.spare_len hs, hl], by omega, fun _ => ⟨d, 0, rfl, hd, fun i hi => ?_⟩⟩, hW⟩
      rw [Nat.zero_add, PO.spare_at hs (by omega), hc i hi, if_pos (PO.all_in _ _ q1 q2 hon i (by omega))])
    obtain ⟨o, ho⟩ : ∃ o, PO.takenAll f l = o := ⟨_, rfl⟩
    rw [ho] at K1 hon q1 q2 q3 hfin
    replace K1 := Lib.hid K1
    have HQ1 := Lib.hid q1
    have HQ2 := Lib.hid q2
    have HQ3 := Lib.hid q3
    have HFA := Lib.hid fa
    have HM := Lib.hid h.2.2.2
    have HBD := Lib.hid h.2.2.1
    have hinfo : (Try.prog.info? 3).map (fun i => (i.zero, i.size, i.bytes)) = some (some (.int .i64 0), 1, 8) := by kernel_rfl
    have hmk := run_make_row' (P := Try.prog) 41 3 (.int .i64 0) 8 Try.underlying41 hinfo rfl .i64 .i64 n (by omega) (by omega)
    obtain ⟨Z, hZ⟩ : ∃ Z, madeCells #[Value.int .i64 0] n = Z := ⟨_, rfl⟩
    rw [hZ] at hmk
    clear h hs ho hinfo eo es q1 q2 q3 fa
    go_enter Try.func53, Try.ntmps53
    go_wp2_with fail
    refine K1.out.mono ?_
    rintro e w1 ⟨v, rfl, ov, h1⟩
    obtain ⟨OA, oc, rfl, hoi, _⟩ := ov.ints
    rw [PO.ints_len, hon, hl]
    rw [PO.ints_len, hon, hl] at hoi
    have HOI := Lib.hid hoi.2.2
    have hw1 := h1.size
    go_wp2_with fail
    obtain ⟨V, hV⟩ : ∃ V, w1.alloc (.cells Z 3) = V := ⟨_, rfl⟩
    rw [hV]
    have hgV : V.heap[w1.heap.size]? = some (.cells Z 3 (0, 0)) := by rw [← hV]; exact World.alloc_heap_new _ _
    have vD : ∀ j, j < n → V.cell? ⟨w1.heap.size, j, none⟩ = some (.int .i64 (if j ∈ o.take 0 then PO.spareGo l f o j else 0)) := fun j hj => by
      rw [← hV]
      have : (w1.alloc (.cells Z 3)).cell? ⟨w1.heap.size, j, none⟩ = Z[j]? := by simp [go_sem]
      rw [this, ← hZ]
      simp [madeCells, hj, Nat.mod_one]
    have vF : ∀ j, V.frozen? ⟨w1.heap.size, j, none⟩ = false := fun j => by simp only [World.frozen?, hgV]; simp
    have vB : Below w1.heap.size w1 V := by rw [← hV]; exact bel_alloc (Below.refl _ _) _
    have vs : w1.heap.size < V.heap.size := (Array.getElem?_eq_some_iff.1 hgV).1
    obtain ⟨d, hd⟩ : ∃ d, w1.heap.size = d := ⟨_, rfl⟩
    rw [hd] at hgV vD vF vs HOI vB hw1
    rw [hd]
    have HMW : Hid (∀ W, Below d w1 W → Below w.heap.size w W) := Lib.hid (fun W hW => bel_trans' h1 (by rw [hd]; exact hW) h1.size)
    have hds := Lib.hid hd
    clear hgV hV hZ hmk ov hoi
    have e00 : f + PO.sumH l (o.take 0) = f := by simp [PO.sumH]
    go_loopw [0, 23] (fun fv i wr => SpareRel w1 l f o d n fv i wr) (fun _ i _ => n - (intOf i).toNat)
    case atStart => exact ⟨0, Nat.zero_le _, rfl, by rw [e00], vD, vF, fun j _ => by rw [e00, List.drop_zero], by rw [hd]; exact vB, vs⟩
    case round =>
      clear vD vF vB vs
      obtain ⟨k, hk, rfl, rfl, hC, hF, hS, hbel, hdw⟩ := hrel
      rw [hds.out] at hbel
      have HC := Lib.hid hC
      have HF := Lib.hid hF
      have HS := Lib.hid hS
      have hw := HMW.out wr hbel
      clear hC hF hS
      by_cases hlt : (k : Int) < (n : Int)
      · have hkn : k < n := by omega
        have hsb := sum_bd HFA.out (HQ1.out.sublist (List.take_sublist k o)) (fun x hx => HQ2.out x (List.mem_of_mem_take hx))
        have hsb2 := sum_bd HFA.out (HQ1.out.sublist (List.take_sublist (k + 1) o)) (fun x hx => HQ2.out x (List.mem_of_mem_take hx))
        have hst := PO.sum_take (l := l) (o := o) (k := k) (by omega)
        have htn := (HQ3.out k (by omega)).2
        have HNB := Lib.hid (PO.not_before HQ1.out (show k < o.length by omega))
        have hxl := (HQ3.out k (by omega)).1
        have hss := HS.out _ HNB.out
        rw [PO.spare_step (by omega), if_pos rfl] at hss
        have HSTEP : Hid (∀ j, j ∉ o.take (k + 1) → PO.spareGo l f o j = PO.spareGo l (f + PO.sumH l (o.take (k + 1))) (o.drop (k + 1)) j) := Lib.hid (fun j hj => by
          have h1 := HS.out j (fun h => hj ((PO.take_mem (by omega) _).2 (.inl h)))
          rw [PO.spare_step (by omega), if_neg (fun h => hj ((PO.take_mem (by omega) _).2 (.inr h.symm)))] at h1
          rw [h1, hst]
          congr 1
          omega)
        have HSTORE : Hid (∀ W, Below d w1 W → (∀ j, j < n → W.cell? ⟨d, j, none⟩ = some (.int .i64 (if j ∈ o.take k then PO.spareGo l f o j else 0))) → ∀ j, j < n → (W.setCell ⟨d, o.getD k 0, none⟩ (.int .i64 (PO.spareGo l f o (o.getD k 0)))).cell? ⟨d, j, none⟩ = some (.int .i64 (if j ∈ o.take (k + 1) then PO.spareGo l f o j else 0))) := Lib.hid (fun W _ hc => spare_store (by omega) (by omega) hc)
        obtain ⟨ob, oof, rfl, hob, hoc⟩ := HOI.out (by omega)
        have ok0 := (hbel.cell (p := ⟨ob, oof + k, none⟩) (by dsimp only; omega)).trans (hoc k hkn)
        have ei : (PO.ints o).getD k 0 = ((o.getD k 0 : Nat) : Int) := by simp [PO.ints, List.getD, show k < o.length by omega]
        rw [ei] at ok0
        obtain ⟨b, off, rfl, hb, hcs⟩ := HM.out (by omega)
        have HXM : Hid (∀ W, Below w.heap.size w W → MemCells W b (off + o.getD k 0 * 4) (l.getD (o.getD k 0) PO.m0)) := Lib.hid (fun W hW => (hcs _ (by omega)).keep hW hb)
        have bd : MemBd (l.getD (o.getD k 0) PO.m0) := by rw [PO.getD_at hxl]; exact HBD.out _ (List.getElem_mem _)
        have hok := PO.ok_get HFA.out hxl
        have hcell := HC.out (o.getD k 0) (by omega)
        obtain ⟨s, hse⟩ : ∃ s, f + PO.sumH l (o.take k) = s := ⟨_, rfl⟩
        obtain ⟨s2, hse2⟩ : ∃ s, f + PO.sumH l (o.take (k + 1)) = s := ⟨_, rfl⟩
        rw [hse] at hss htn ⊢
        rw [hse2] at HSTEP
        obtain ⟨i, hi⟩ : ∃ i, o.getD k 0 = i := ⟨_, rfl⟩
        rw [hi] at HXM bd hok hcell ok0 hst htn hxl hss HSTORE
        obtain ⟨m, hm⟩ : ∃ m, l.getD i PO.m0 = m := ⟨_, rfl⟩
        rw [hm] at HXM bd hok hst htn hss
        have hh := PO.ok_held hok
        have hnd := need_bd2 m
        have KN := Lib.hid (fun W => account_Need m.2.1 m.2.2.1 m.2.2.2 W bd.2.1 bd.2.2.1 bd.2.2.2)
        have en : PA.need m.2.1 m.2.2.1 m.2.2.2 = PO.need m := rfl
        rw [en] at KN
        obtain ⟨nd, hne⟩ : ∃ nd, PO.need m = nd := ⟨_, rfl⟩
        rw [hne] at KN htn hss hnd
        have hss2 : s2 = s + m.2.2.1 := by omega
        have w1' : IntKind.i64.wrap (s - nd) = s - nd := IntWalk.i64_in _ (by omega)
        have w2' : IntKind.i64.wrap (s + m.2.2.1) = s + m.2.2.1 := IntWalk.i64_in _ (by omega)
        obtain ⟨sp, hsp⟩ : ∃ sp, PO.spareGo l f o i = sp := ⟨_, rfl⟩
        rw [hsp] at hss HSTORE
        subst hss
        have i0 : (0 : Int) ≤ (i : Int) := by omega
        have i1 : (i : Int) < (n : Int) := by omega
        have j1 : (0 : Int) ≤ (k : Int) := by omega
        have j2 : (k : Int) < (n : Int) := hlt
        have hbd1 : b ≠ d := by omega
        have hbd2 : d ≠ b := by omega
        have hob1 : ob ≠ d := by omega
        obtain ⟨z0, z1, z2, z3⟩ := HXM.out wr hw
        have hfz := HF.out i
        have HSE2 := Lib.hid hse2
        clear hse hse2 hi hm hsp hok bd hcs hoc hst htn hne en hsb hsb2 hxl ei
        go_wp2_with fail
        refine (KN.out _).mono ?_
        rintro e w4 ⟨rfl, h4⟩
        have t4 : Below d w1 w4 := hbel.trans (h4.mono (by omega))
        obtain ⟨y0, y1, y2, y3⟩ := HXM.out w4 (HMW.out w4 t4)
        have hcell4 := (h4.cell (p := ⟨d, i, none⟩) hdw).trans hcell
        have hf4 : ∀ j, w4.frozen? ⟨d, j, none⟩ = false := fun j => by
          have := HF.out j
          simp only [World.frozen?] at this ⊢
          rw [h4.block d hdw]
          exact this
        have hfi := hf4 i
        have HF4 := Lib.hid hf4
        have HC4 : Hid (∀ j, j < n → w4.cell? ⟨d, j, none⟩ = some (.int .i64 (if j ∈ o.take k then PO.spareGo l f o j else 0))) := Lib.hid (fun j hj => (h4.cell (p := ⟨d, j, none⟩) hdw).trans (HC.out j hj))
        have hs4 : d < w4.heap.size := Nat.lt_of_lt_of_le hdw h4.size
        have e2 : (w4.setCell ⟨d, i, none⟩ (.int .i64 (s - nd))).cell? ⟨b, off + i * 4 + 2, none⟩ = some (.int .i64 m.2.2.1) := (World.cell?_setCell_other _ _ _ _ (by simp <;> omega)).trans y2
        clear hf4
        go_wp2_with fail
        go_roundw
        case rel => exact ⟨k + 1, by omega, by go_num, by rw [HSE2.out, hss2], HSTORE.out w4 t4 HC4.out, fun j => by simpa [go_sem] using HF4.out j, by rw [HSE2.out]; exact HSTEP.out, by rw [hds.out]; exact t4.setCell (by exact Nat.le_refl _) _, by simpa using hs4⟩
        case measure => simp [intOf] <;> omega
      · have e0 : o.take k = o := List.take_of_length_le (by omega)
        have HFIN := Lib.hid (hfin.out wr d (by have := HC.out; rwa [e0] at this) hdw hw)
        go_wp2_with fail
        go_ret
        exact HFIN.out
end Go.Proofs.Ythmjbfocpdiikaa
