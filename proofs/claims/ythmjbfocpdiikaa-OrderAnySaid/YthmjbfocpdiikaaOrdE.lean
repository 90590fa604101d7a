/-
  order.Right and its reference.
-/
import Derived.Test.YthmjbfocpdiikaaPlainOrd
import Derived.Test.YthmjbfocpdiikaaMemE
namespace Go.Proofs.Ythmjbfocpdiikaa
open Go.RowKit
set_option linter.unusedVariables false
set_option linter.unusedSimpArgs false
attribute [local go_sem] drewN_alloc drewN_setCell

theorem IntsAt.take {w : World} {A : Option Addr} {n k : Nat} {xs : List Int} (h : IntsAt w A n xs) (hk : k ≤ n) : IntsAt w A k (xs.take k) := by
  refine ⟨by rw [List.length_take]; have := h.1; omega, by have := h.2.1; omega, fun h0 => ?_⟩
  obtain ⟨b, off, e, hb, hc⟩ := h.2.2 (by omega)
  refine ⟨b, off, e, hb, fun i hi => ?_⟩
  have e2 : (xs.take k).getD i 0 = xs.getD i 0 := by simp [List.getD, List.getElem?_take, hi]
  rw [e2]
  exact hc i (by omega)
theorem right_cons {l : List PO.Mem} {f : Int} {done : List Nat} {o : List Int} {k : Nat} (hk : k < o.length) : PO.right l f done (o.drop k) =
    if o.getD k 0 < 0 ∨ (l.length : Int) ≤ o.getD k 0 then false else if done.contains (o.getD k 0).toNat = true then false else if f < PO.need (l.getD (o.getD k 0).toNat PO.m0) then false
      else PO.right l (f + (l.getD (o.getD k 0).toNat PO.m0).2.2.1) (done ++ [(o.getD k 0).toNat]) (o.drop (k + 1)) := by
  have e : o.getD k 0 = o[k] := by simp [List.getD, hk]
  rw [List.drop_eq_getElem_cons hk, e]
  rfl
theorem good_add {l : List PO.Mem} {k : Nat} {free : Int} {done : List Nat} {i : Nat} (ha : l.all PO.ok = true) (h : PO.Good l k free done) (n1 : i < l.length) (n2 : i ∉ done) :
    ∃ k', PO.Good l k' (free + (l.getD i PO.m0).2.2.1) (done ++ [i]) := by
  obtain ⟨h1, h2, h3, h4, h5⟩ := h
  have hd : (done ++ [i]).Nodup := by
    rw [List.nodup_append]
    exact ⟨h1, by simp, fun a ha b hb => by simp at hb; rintro rfl; exact n2 (hb ▸ ha)⟩
  have hl : ∀ x ∈ done ++ [i], x < l.length := fun x hx => by
    rcases List.mem_append.1 hx with h | h
    · exact h2 x h
    · simp at h; omega
  have := PO.nodup_le _ _ hd hl
  rw [List.length_append] at this
  have hb := PO.ok_held (PO.ok_get ha n1)
  simp only [List.length_cons, List.length_nil] at this
  refine ⟨k - 1, hd, hl, by simp; omega, by omega, ?_⟩
  rw [List.length_append]
  simp only [List.length_cons, List.length_nil]
  push_cast
  omega
theorem DoneAt.add {w : World} {d n i : Nat} {done : List Nat} (h : DoneAt w d n done) (hi : i < n) : DoneAt (w.setCell ⟨d, i, none⟩ (.bool true)) d n (done ++ [i]) := fun j hj => by
  by_cases e : j = i
  · subst e
    rw [World.cell?_setCell_same _ _ _ (h j hj)]
    simp
  · rw [World.cell?_setCell_other _ _ _ _ (by simp <;> omega), h j hj]
    simp [e]
def RightRel (w : World) (R : Bool) (d n on : Nat) (l : List PO.Mem) (o : List Int) (fv i : Value) (wr : World) : Prop :=
  ∃ (k kk : Nat) (f : Int) (done : List Nat), k ≤ on ∧ i = .int .i64 k ∧ fv = .int .i64 f ∧ PO.Good l kk f done ∧ DoneAt wr d n done ∧ (∀ j, wr.frozen? ⟨d, j, none⟩ = false) ∧ R = PO.right l f done (o.drop k) ∧ Below w.heap.size w wr ∧ w.heap.size ≤ d ∧ d < wr.heap.size
def RefRightRel (w : World) (R : Bool) (on : Nat) (l : List PO.Mem) (o : List Int) (fv i : Value) (wr : World) : Prop :=
  ∃ (k kk : Nat) (f : Int) (done : List Nat), k ≤ on ∧ i = .int .i64 k ∧ fv = .int .i64 f ∧ PO.Good l kk f done ∧ (∀ x : Nat, (x : Int) ∈ o.take k ↔ x ∈ done) ∧ R = PO.right l f done (o.drop k) ∧ Below w.heap.size w wr

set_option maxRecDepth 100000 in
set_option maxHeartbeats 8000000 in
theorem order_Right {OA A : Option Addr} {on n : Nat} {o : List Int} {l : List PO.Mem} (oc c : Nat) (f : Int) {w : World} (ho : IntsAt w OA on o) (h : MemAt w A n l) (hn : n ≤ 1000) :
    Calls Try.prog 46 #[.slice OA on oc, .int .i64 f, .slice A n c] w fun e w' => e = .returned (.bool (PO.isRight o f l)) ∧ Below w.heap.size w w' := by
  obtain ⟨R, hR⟩ : ∃ R, PO.isRight o f l = R := ⟨_, rfl⟩
  rw [hR]
  have hl := h.1
  have hol := ho.1
  have K1 := Lib.hid (order_may c f h)
  unfold PO.isRight at hR
  cases hm : PO.may f l
  · have HE : Hid (false = R) := Lib.hid (by rw [← hR, hm]; rfl)
    rw [hm] at K1
    clear h ho hm hR
    go_enter Try.func46, Try.ntmps46
    go_wp2_with fail
    refine K1.out.mono ?_
    rintro e w1 ⟨rfl, h1⟩
    go_wp2_with fail
    go_ret
    exact ⟨ret_bool HE.out, by exact (by repeat (first | exact Below.refl _ _ | assumption | refine bel_drew ?_ | refine bel_drewN ?_ _ | refine bel_trans ?_ (by assumption)))⟩
  · by_cases hlen : on = n
    · subst hlen
      rw [hm] at hR K1
      simp only [hol, hl, Bool.true_and, decide_true] at hR
      obtain ⟨f0, f1, fa⟩ := PO.may_iff.1 hm
      have HG := Lib.hid (PO.good_start hm)
      replace fa := Lib.hid fa
      have hR0 := Lib.hid hR
      have HO := Lib.hid ho.2.2
      have HT := Lib.hid ho
      have HM := Lib.hid h.2.2.2
      have HBD := Lib.hid h.2.2.1
      have hinfo : (Try.prog.info? 4).map (fun i => (i.zero, i.size, i.bytes)) = some (some (.bool false), 1, 1) := by kernel_rfl
      have hmk := run_make_row' (P := Try.prog) 95 4 (.bool false) 1 Try.underlying95 hinfo rfl .i64 .i64 on (by omega) (by omega)
      obtain ⟨Z, hZ⟩ : ∃ Z, madeCells #[Value.bool false] on = Z := ⟨_, rfl⟩
      rw [hZ] at hmk
      clear h ho hm hR hinfo
      have g1 : ((on : Int) != (on : Int)) = false := by simp
      go_enter Try.func46, Try.ntmps46
      go_wp2_with fail
      refine K1.out.mono ?_
      rintro e w1 ⟨rfl, h1⟩
      go_wp2_with fail
      obtain ⟨V, hV⟩ : ∃ V, w1.alloc (.cells Z 4) = V := ⟨_, rfl⟩
      rw [hV]
      have hgV : V.heap[w1.heap.size]? = some (.cells Z 4 (0, 0)) := by rw [← hV]; exact World.alloc_heap_new _ _
      have vD : DoneAt V w1.heap.size on [] := fun j hj => by
        rw [← hV]
        have : (w1.alloc (.cells Z 4)).cell? ⟨w1.heap.size, j, none⟩ = Z[j]? := by simp [go_sem]
        rw [this, ← hZ]
        simp [madeCells, hj, Nat.mod_one]
      have vF : ∀ j, V.frozen? ⟨w1.heap.size, j, none⟩ = false := fun j => by simp only [World.frozen?, hgV]; simp
      have vB : Below w.heap.size w V := by rw [← hV]; exact bel_alloc h1 _
      have vs : w1.heap.size < V.heap.size := (Array.getElem?_eq_some_iff.1 hgV).1
      obtain ⟨d, hd⟩ : ∃ d, w1.heap.size = d := ⟨_, rfl⟩
      have hwd : w.heap.size ≤ d := by rw [← hd]; exact h1.size
      rw [hd] at hgV vD vF vs
      rw [hd]
      clear hgV hV hZ hmk h1 hd
      go_loopw [1, 26] (fun fv i wr => RightRel w R d on on l o fv i wr) (fun _ i _ => on - (intOf i).toNat)
      case atStart => exact ⟨0, on, f, [], Nat.zero_le _, rfl, rfl, by have := HG.out; rwa [hl] at this, vD, vF, by rw [List.drop_zero]; exact hR0.out.symm, vB, hwd, vs⟩
      case round =>
        clear vD vF vB vs
        obtain ⟨k, kk, fv, done, hk, rfl, rfl, hgood, hD, hF, hr, hbel, hwd, hds⟩ := hrel
        have HGD := Lib.hid hgood
        obtain ⟨_, hdl, hdn, q0, q1⟩ := hgood
        replace hr := Lib.hid hr
        have HD := Lib.hid hD
        clear hD
        by_cases hlt : (k : Int) < (on : Int)
        · have hst := right_cons (l := l) (f := fv) (done := done) (o := o) (k := k) (by omega)
          obtain ⟨ob, ooff, rfl, hob, hoc'⟩ := HO.out (by omega)
          have xk := (hbel.cell (p := ⟨ob, ooff + k, none⟩) hob).trans (hoc' k (by omega))
          obtain ⟨x, hx⟩ : ∃ x, o.getD k 0 = x := ⟨_, rfl⟩
          rw [hx] at xk hst
          rw [hl] at hst
          have HX := Lib.hid hx
          have j1 : (0 : Int) ≤ (k : Int) := by omega
          have j2 : (k : Int) < (on : Int) := hlt
          clear hx hoc'
          by_cases hx0 : x < 0
          · have HE : Hid (false = R) := Lib.hid (by rw [hr.out, hst, if_pos (.inl hx0)])
            clear hst
            go_wp2_with fail
            go_ret
            exact ⟨ret_bool HE.out, by exact (by repeat (first | exact Below.refl _ _ | assumption | refine bel_drew ?_ | refine bel_drewN ?_ _ | refine bel_trans ?_ (by assumption)))⟩
          · by_cases hx1 : (on : Int) ≤ x
            · have HE : Hid (false = R) := Lib.hid (by rw [hr.out, hst, if_pos (.inr hx1)])
              clear hst
              go_wp2_with fail
              go_ret
              exact ⟨ret_bool HE.out, by exact (by repeat (first | exact Below.refl _ _ | assumption | refine bel_drew ?_ | refine bel_drewN ?_ _ | refine bel_trans ?_ (by assumption)))⟩
            · rw [if_neg (by omega)] at hst
              obtain ⟨i, rfl⟩ : ∃ i : Nat, x = i := ⟨x.toNat, by omega⟩
              have ei : ((i : Int)).toNat = i := by omega
              rw [ei] at hst
              have i0 : ¬ (i : Int) < 0 := hx0
              have i1 : ¬ (on : Int) ≤ (i : Int) := hx1
              have i2 : (i : Int) < (on : Int) := by omega
              have i3 : (0 : Int) ≤ (i : Int) := by omega
              have i4 : ¬ on ≤ i := by omega
              have hi : i < on := by omega
              have hdc := HD.out i hi
              by_cases hin : i ∈ done
              · have HE : Hid (false = R) := Lib.hid (by rw [hr.out, hst, if_pos (by simpa using hin)])
                rw [decide_eq_true hin] at hdc
                clear hst hin
                go_wp2_with fail
                go_ret
                exact ⟨ret_bool HE.out, by exact (by repeat (first | exact Below.refl _ _ | assumption | refine bel_drew ?_ | refine bel_drewN ?_ _ | refine bel_trans ?_ (by assumption)))⟩
              · rw [if_neg (by simpa using hin)] at hst
                rw [decide_eq_false hin] at hdc
                have HIN := Lib.hid hin
                clear hin
                obtain ⟨b, off, rfl, hb, hcs⟩ := HM.out (by omega)
                have HXM : Hid (∀ W, Below w.heap.size w W → MemCells W b (off + i * 4) (l.getD i PO.m0)) := Lib.hid (fun W hW => (hcs i hi).keep hW hb)
                have bd : MemBd (l.getD i PO.m0) := by rw [PO.getD_at (by omega)]; exact HBD.out _ (List.getElem_mem _)
                have hok := PO.ok_get fa.out (show i < l.length by omega)
                have HGA := Lib.hid (good_add fa.out HGD.out (show i < l.length by omega) HIN.out)
                obtain ⟨m, hm⟩ : ∃ m, l.getD i PO.m0 = m := ⟨_, rfl⟩
                rw [hm] at HXM bd hok hst HGA
                have hh := PO.ok_held hok
                have KN := Lib.hid (fun W => account_Need m.2.1 m.2.2.1 m.2.2.2 W bd.2.1 bd.2.2.1 bd.2.2.2)
                have en : PA.need m.2.1 m.2.2.1 m.2.2.2 = PO.need m := rfl
                rw [en] at KN
                obtain ⟨nd, hne⟩ : ∃ nd, PO.need m = nd := ⟨_, rfl⟩
                rw [hne] at KN hst
                have hnl := PO.nodup_le _ _ HGD.out.1 hdl
                have w1' : IntKind.i64.wrap (fv + m.2.2.1) = fv + m.2.2.1 := IntWalk.i64_in _ (by omega)
                clear hm bd hok hne en hcs
                by_cases hf : fv < nd
                · have HE : Hid (false = R) := Lib.hid (by rw [hr.out, hst, if_pos hf])
                  have qf : decide (fv < nd) = true := decide_eq_true hf
                  clear hst
                  obtain ⟨z0, z1, z2, z3⟩ := HXM.out wr hbel
                  go_wp2_with fail
                  refine (KN.out _).mono ?_
                  rintro e w4 ⟨rfl, h4⟩
                  go_wp2_with fail
                  go_ret
                  exact ⟨ret_bool HE.out, by exact (by repeat (first | exact Below.refl _ _ | assumption | refine bel_drew ?_ | refine bel_drewN ?_ _ | refine bel_trans ?_ (by assumption)))⟩
                · rw [if_neg hf] at hst
                  have qf : decide (fv < nd) = false := decide_eq_false hf
                  have HR2 := Lib.hid (hr.out.trans hst)
                  clear hst
                  obtain ⟨z0, z1, z2, z3⟩ := HXM.out wr hbel
                  go_wp2_with fail
                  refine (KN.out _).mono ?_
                  rintro e w4 ⟨rfl, h4⟩
                  have v4 : Below w.heap.size w w4 := by exact bel_trans hbel h4
                  obtain ⟨y0, y1, y2, y3⟩ := HXM.out w4 v4
                  have hbd' : b ≠ d := by omega
                  have hbd2 : d ≠ b := by omega
                  have hd4 := (h4.cell (p := ⟨d, i, none⟩) hds).trans hdc
                  have hf4 : ∀ j, w4.frozen? ⟨d, j, none⟩ = false := fun j => by
                    have := hF j
                    simp only [World.frozen?] at this ⊢
                    rw [h4.block d hds]
                    exact this
                  have hfi := hf4 i
                  have hD4 : Hid (DoneAt w4 d on done) := Lib.hid (fun j hj => (h4.cell (p := ⟨d, j, none⟩) hds).trans (HD.out j hj))
                  have HF4 := Lib.hid hf4
                  have hs4 : d < w4.heap.size := Nat.lt_of_lt_of_le hds h4.size
                  have e2 : (w4.setCell ⟨d, i, none⟩ (.bool true)).cell? ⟨b, off + i * 4 + 2, none⟩ = some (.int .i64 m.2.2.1) := (World.cell?_setCell_other _ _ _ _ (by simp <;> omega)).trans y2
                  clear hf4 hF
                  go_wp2_with fail
                  go_roundw
                  case rel =>
                    obtain ⟨k', hg'⟩ := HGA.out
                    exact ⟨k + 1, k', fv + m.2.2.1, done ++ [i], by omega, by go_num, rfl, hg', hD4.out.add hi, fun j => by simpa [go_sem] using HF4.out j, HR2.out, v4.setCell (by exact hwd) _, hwd, by simpa using hs4⟩
                  case measure => simp [intOf] <;> omega
        · have e0 : o.drop k = [] := List.drop_eq_nil_of_le (by omega)
          have HE : Hid (true = R) := Lib.hid (by rw [hr.out, e0]; rfl)
          go_wp2_with fail
          go_ret
          exact ⟨ret_bool HE.out, by exact (by repeat (first | exact Below.refl _ _ | assumption | refine bel_drew ?_ | refine bel_drewN ?_ _ | refine bel_trans ?_ (by assumption)))⟩
    · have HE : Hid (false = R) := Lib.hid (by rw [← hR, hm, hol, hl]; simp [hlen])
      rw [hm] at K1
      have g1 : ((on : Int) != (n : Int)) = true := by simp; omega
      have g2 : ¬ (on : Int) = (n : Int) := by omega
      have g3 : ¬ on = n := hlen
      clear h ho hm hR hlen
      go_enter Try.func46, Try.ntmps46
      go_wp2_with fail
      refine K1.out.mono ?_
      rintro e w1 ⟨rfl, h1⟩
      go_wp2_with fail
      go_ret
      exact ⟨ret_bool HE.out, by exact (by repeat (first | exact Below.refl _ _ | assumption | refine bel_drew ?_ | refine bel_drewN ?_ _ | refine bel_trans ?_ (by assumption)))⟩

set_option maxRecDepth 100000 in
set_option maxHeartbeats 8000000 in
theorem ref28_Right {OA A : Option Addr} {on n : Nat} {o : List Int} {l : List PO.Mem} (oc c : Nat) (f : Int) {w : World} (ho : IntsAt w OA on o) (h : MemAt w A n l) (hn : n ≤ 1000) (hoc : on ≤ oc) (hcb : oc ≤ 9223372036854775807) :
    Calls Try.prog 47 #[.slice OA on oc, .int .i64 f, .slice A n c] w fun e w' => e = .returned (.bool (PO.isRight o f l)) ∧ Below w.heap.size w w' := by
  obtain ⟨R, hR⟩ : ∃ R, PO.isRight o f l = R := ⟨_, rfl⟩
  rw [hR]
  have hl := h.1
  have hol := ho.1
  have K1 := Lib.hid (ref28_May c f h)
  unfold PO.isRight at hR
  cases hm : PO.may f l
  · have HE : Hid (false = R) := Lib.hid (by rw [← hR, hm]; rfl)
    rw [hm] at K1
    clear h ho hm hR
    go_enter Try.func47, Try.ntmps47
    go_wp2_with fail
    refine K1.out.mono ?_
    rintro e w1 ⟨rfl, h1⟩
    go_wp2_with fail
    go_ret
    exact ⟨ret_bool HE.out, by exact (by repeat (first | exact Below.refl _ _ | assumption | refine bel_drew ?_ | refine bel_drewN ?_ _ | refine bel_trans ?_ (by assumption)))⟩
  · by_cases hlen : on = n
    · subst hlen
      rw [hm] at hR K1
      simp only [hol, hl, Bool.true_and, decide_true] at hR
      obtain ⟨f0, f1, fa⟩ := PO.may_iff.1 hm
      have HG := Lib.hid (PO.good_start hm)
      replace fa := Lib.hid fa
      have hR0 := Lib.hid hR
      have HO := Lib.hid ho.2.2
      have HT := Lib.hid ho
      have HM := Lib.hid h.2.2.2
      have HBD := Lib.hid h.2.2.1
      clear h ho hm hR
      have g1 : ((on : Int) != (on : Int)) = false := by simp
      go_enter Try.func47, Try.ntmps47
      go_wp2_with fail
      refine K1.out.mono ?_
      rintro e w1 ⟨rfl, h1⟩
      go_wp2_with fail
      go_loopw [1, 7] (fun fv i wr => RefRightRel w R on l o fv i wr) (fun _ i _ => on - (intOf i).toNat)
      case atStart => exact ⟨0, on, f, [], Nat.zero_le _, rfl, rfl, by have := HG.out; rwa [hl] at this, fun x => by simp, by rw [List.drop_zero]; exact hR0.out.symm, h1⟩
      case round =>
        obtain ⟨k, kk, fv, done, hk, rfl, rfl, hgood, hD, hr, hbel⟩ := hrel
        have HGD := Lib.hid hgood
        obtain ⟨_, hdl, hdn, q0, q1⟩ := hgood
        replace hr := Lib.hid hr
        have HD := Lib.hid hD
        clear hD
        by_cases hlt : (k : Int) < (on : Int)
        · have hst := right_cons (l := l) (f := fv) (done := done) (o := o) (k := k) (by omega)
          obtain ⟨ob, ooff, rfl, hob, hoc'⟩ := HO.out (by omega)
          have xk := (hbel.cell (p := ⟨ob, ooff + k, none⟩) hob).trans (hoc' k (by omega))
          obtain ⟨x, hx⟩ : ∃ x, o.getD k 0 = x := ⟨_, rfl⟩
          rw [hx] at xk hst
          rw [hl] at hst
          have HX := Lib.hid hx
          have j1 : (0 : Int) ≤ (k : Int) := by omega
          have j2 : (k : Int) < (on : Int) := hlt
          clear hx hoc'
          by_cases hx0 : x < 0
          · have HE : Hid (false = R) := Lib.hid (by rw [hr.out, hst, if_pos (.inl hx0)])
            clear hst
            go_wp2_with fail
            go_ret
            exact ⟨ret_bool HE.out, by exact (by repeat (first | exact Below.refl _ _ | assumption | refine bel_drew ?_ | refine bel_drewN ?_ _ | refine bel_trans ?_ (by assumption)))⟩
          · by_cases hx1 : (on : Int) ≤ x
            · have HE : Hid (false = R) := Lib.hid (by rw [hr.out, hst, if_pos (.inr hx1)])
              clear hst
              go_wp2_with fail
              go_ret
              exact ⟨ret_bool HE.out, by exact (by repeat (first | exact Below.refl _ _ | assumption | refine bel_drew ?_ | refine bel_drewN ?_ _ | refine bel_trans ?_ (by assumption)))⟩
            · rw [if_neg (by omega)] at hst
              obtain ⟨i, rfl⟩ : ∃ i : Nat, x = i := ⟨x.toNat, by omega⟩
              have ei : ((i : Int)).toNat = i := by omega
              rw [ei] at hst
              have i0 : ¬ (i : Int) < 0 := hx0
              have i1 : ¬ (on : Int) ≤ (i : Int) := hx1
              have i2 : (i : Int) < (on : Int) := by omega
              have i3 : (0 : Int) ≤ (i : Int) := by omega
              have i4 : ¬ on ≤ i := by omega
              have hi : i < on := by omega
              have KI := Lib.hid (fun W (hW : Below w.heap.size w W) => ref28_in oc (i : Int) ((HT.out.keep hW).take hk))
              have kle : (k : Int) ≤ (oc : Int) := by omega
              have kle' : k ≤ oc := by omega
              by_cases hin : i ∈ done
              · have HE : Hid (false = R) := Lib.hid (by rw [hr.out, hst, if_pos (by simpa using hin)])
                rw [decide_eq_true ((HD.out i).2 hin)] at KI
                clear hst hin
                go_wp2_with fail
                refine (KI.out _ hbel).mono ?_
                rintro e u1 ⟨rfl, t1⟩
                go_wp2_with fail
                go_ret
                exact ⟨ret_bool HE.out, by exact (by repeat (first | exact Below.refl _ _ | assumption | refine bel_drew ?_ | refine bel_drewN ?_ _ | refine bel_trans ?_ (by assumption)))⟩
              · rw [if_neg (by simpa using hin)] at hst
                rw [decide_eq_false (fun h => hin ((HD.out i).1 h))] at KI
                have HIN := Lib.hid hin
                clear hin
                obtain ⟨b, off, rfl, hb, hcs⟩ := HM.out (by omega)
                have HXM : Hid (∀ W, Below w.heap.size w W → MemCells W b (off + i * 4) (l.getD i PO.m0)) := Lib.hid (fun W hW => (hcs i hi).keep hW hb)
                have bd : MemBd (l.getD i PO.m0) := by rw [PO.getD_at (by omega)]; exact HBD.out _ (List.getElem_mem _)
                have hok := PO.ok_get fa.out (show i < l.length by omega)
                have HGA := Lib.hid (good_add fa.out HGD.out (show i < l.length by omega) HIN.out)
                obtain ⟨m, hm⟩ : ∃ m, l.getD i PO.m0 = m := ⟨_, rfl⟩
                rw [hm] at HXM bd hok hst HGA
                have hh := PO.ok_held hok
                have KN := Lib.hid (fun W => ref26_Need m.2.1 m.2.2.1 m.2.2.2 W bd.2.1 bd.2.2.1 bd.2.2.2)
                have en : PA.need m.2.1 m.2.2.1 m.2.2.2 = PO.need m := rfl
                rw [en] at KN
                obtain ⟨nd, hne⟩ : ∃ nd, PO.need m = nd := ⟨_, rfl⟩
                rw [hne] at KN hst
                have hnl := PO.nodup_le _ _ HGD.out.1 hdl
                have w1' : IntKind.i64.wrap (fv + m.2.2.1) = fv + m.2.2.1 := IntWalk.i64_in _ (by omega)
                clear hm bd hok hne en hcs
                by_cases hf : fv < nd
                · have HE : Hid (false = R) := Lib.hid (by rw [hr.out, hst, if_pos hf])
                  have qf : decide (fv < nd) = true := decide_eq_true hf
                  clear hst
                  go_wp2_with fail
                  refine (KI.out _ hbel).mono ?_
                  rintro e u1 ⟨rfl, t1⟩
                  have v1 : Below w.heap.size w u1 := by exact bel_trans hbel t1
                  obtain ⟨z0, z1, z2, z3⟩ := HXM.out u1 v1
                  go_wp2_with fail
                  refine (KN.out _).mono ?_
                  rintro e w4 ⟨rfl, h4⟩
                  go_wp2_with fail
                  go_ret
                  exact ⟨ret_bool HE.out, by exact (by repeat (first | exact Below.refl _ _ | assumption | refine bel_drew ?_ | refine bel_drewN ?_ _ | refine bel_trans ?_ (by assumption)))⟩
                · rw [if_neg hf] at hst
                  have qf : decide (fv < nd) = false := decide_eq_false hf
                  have HR2 := Lib.hid (hr.out.trans hst)
                  clear hst
                  go_wp2_with fail
                  refine (KI.out _ hbel).mono ?_
                  rintro e u1 ⟨rfl, t1⟩
                  have v1 : Below w.heap.size w u1 := by exact bel_trans hbel t1
                  obtain ⟨z0, z1, z2, z3⟩ := HXM.out u1 v1
                  go_wp2_with fail
                  refine (KN.out _).mono ?_
                  rintro e w4 ⟨rfl, h4⟩
                  have v4 : Below w.heap.size w w4 := by exact bel_trans v1 h4
                  obtain ⟨y0, y1, y2, y3⟩ := HXM.out w4 v4
                  go_wp2_with fail
                  go_roundw
                  case rel =>
                    obtain ⟨k', hg'⟩ := HGA.out
                    exact ⟨k + 1, k', fv + m.2.2.1, done ++ [i], by omega, by go_num, rfl, hg', fun y => by
                      rw [List.take_add_one, List.mem_append, List.mem_append, HD.out y]
                      have e1 : o[k]? = some (i : Int) := by rw [List.getElem?_eq_getElem (by omega), ← HX.out]; simp [List.getD, show k < o.length by omega]
                      rw [e1]
                      simp only [Option.toList_some, List.mem_singleton]
                      constructor
                      · rintro (h | h)
                        · exact .inl h
                        · exact .inr (by omega)
                      · rintro (h | h)
                        · exact .inl h
                        · exact .inr (by omega), HR2.out, v4⟩
                  case measure => simp [intOf] <;> omega
        · have e0 : o.drop k = [] := List.drop_eq_nil_of_le (by omega)
          have HE : Hid (true = R) := Lib.hid (by rw [hr.out, e0]; rfl)
          go_wp2_with fail
          go_ret
          exact ⟨ret_bool HE.out, by exact (by repeat (first | exact Below.refl _ _ | assumption | refine bel_drew ?_ | refine bel_drewN ?_ _ | refine bel_trans ?_ (by assumption)))⟩
    · have HE : Hid (false = R) := Lib.hid (by rw [← hR, hm, hol, hl]; simp [hlen])
      rw [hm] at K1
      have g1 : ((on : Int) != (n : Int)) = true := by simp; omega
      have g2 : ¬ (on : Int) = (n : Int) := by omega
      have g3 : ¬ on = n := hlen
      clear h ho hm hR hlen
      go_enter Try.func47, Try.ntmps47
      go_wp2_with fail
      refine K1.out.mono ?_
      rintro e w1 ⟨rfl, h1⟩
      go_wp2_with fail
      go_ret
      exact ⟨ret_bool HE.out, by exact (by repeat (first | exact Below.refl _ _ | assumption | refine bel_drew ?_ | refine bel_drewN ?_ _ | refine bel_trans ?_ (by assumption)))⟩
end Go.Proofs.Ythmjbfocpdiikaa
