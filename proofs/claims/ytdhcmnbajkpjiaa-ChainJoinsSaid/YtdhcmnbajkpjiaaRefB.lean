/-
  The reference's rows in memory: Beside, Put, Add.
-/
import Derived.Test.YtdhcmnbajkpjiaaRefA
import Derived.Laws.OwnMore
namespace Go.Proofs.Ytdhcmnbajkpjiaa
open Go.RowKit
set_option linter.unusedVariables false
attribute [local go_sem] drewN_alloc drewN_setCell

variable {B : Nat}
namespace PC
def beside (l : Nat) (R : Nat → List Nat) (x y : Int) : Int :=
  match rowOf l R x with
  | some i => if (R i).idxOf x.toNat + y < 0 ∨ (R i).length ≤ (R i).idxOf x.toNat + y then -1 else (((R i).getD ((R i).idxOf x.toNat + y).toNat 0 : Nat) : Int)
  | none => -1
theorem beside_next {l : Nat} {R : Nat → List Nat} {x : Int} : beside l R x 1 = nextV l R x := by
  unfold beside nextV
  rcases hr : rowOf l R x with _ | i
  · rfl
  · simp only
    generalize (R i).idxOf x.toNat = k
    by_cases h : k + 1 < (R i).length
    · rw [if_neg (by omega), List.drop_eq_getElem_cons h, headD_cons, show ((k : Int) + 1).toNat = k + 1 by omega]
      simp [List.getD, h]
    · rw [if_pos (by omega), List.drop_eq_nil_of_le (by omega), headD_nil]
theorem beside_back {l : Nat} {R : Nat → List Nat} {x : Int} : beside l R x (-1) = backV l R x := by
  unfold beside backV
  rcases hr : rowOf l R x with _ | i
  · rfl
  · obtain ⟨h1, h2, h3, h4⟩ := rowOf_some hr
    have hk := List.idxOf_lt_length_iff.2 h3
    simp only
    generalize (R i).idxOf x.toNat = k at *
    by_cases h : 0 < k
    · obtain ⟨j, rfl⟩ : ∃ j, k = j + 1 := ⟨k - 1, by omega⟩
      rw [if_neg (by omega), List.take_succ_eq_append_getElem (by omega), lastD_snoc, show (((j + 1 : Nat) : Int) + (-1)).toNat = j by omega]
      have hj : j < (R i).length := by omega
      simp [List.getD, hj]
    · obtain rfl : k = 0 := by omega
      rw [if_pos (by omega)]; rfl
end PC

theorem ref05_Beside (A : Option Addr) (l c : Nat) (R : Nat → List Nat) (x y : Int) (w : World) (h : RowsAt B w A l R) (hy : -1 ≤ y ∧ y ≤ 1) :
    Calls Try.prog 107 #[.slice A l c, .int .i64 x, .int .i64 y] w fun e w' => e = .returned (.int .i64 (PC.beside l R x y)) ∧ w = w' := by
  have O := ref05_Of A l c R x w h
  obtain ⟨y0, y1⟩ := hy
  rcases hr : PC.rowOf l R x with _ | i
  · rw [PC.ofV_none hr] at O
    have e : PC.beside l R x y = -1 := by unfold PC.beside; rw [hr]
    rw [e]
    replace O := Lib.hid O
    clear h hr e
    go_enter Try.func107, Try.ntmps107
    go_wp2_with fail
    refine O.out.mono ?_
    rintro e w1 ⟨rfl, rfl⟩
    go_wp2_with fail
    go_ret
    exact ⟨rfl, rfl⟩
  · obtain ⟨h1, h2, h3, h4⟩ := PC.rowOf_some hr
    have hk := List.idxOf_lt_length_iff.2 h3
    have e : PC.ofV l R x = i := by unfold PC.ofV; rw [hr]
    rw [e] at O
    have ep : PC.place (R i) x = ((R i).idxOf x.toNat : Nat) := by unfold PC.place; rw [if_pos ⟨h2, h3⟩]
    have eb : PC.beside l R x y = if (R i).idxOf x.toNat + y < 0 ∨ (R i).length ≤ (R i).idxOf x.toNat + y then -1 else (((R i).getD ((R i).idxOf x.toNat + y).toNat 0 : Nat) : Int) := by unfold PC.beside; rw [hr]
    obtain ⟨hl, b, off, rfl, hb, hc⟩ := h
    obtain ⟨v, x0, A1, n1, c1, rfl, hi, -⟩ := hc i h1
    have P := ref05_Place A1 n1 c1 (R i) x w hi.1
    rw [ep] at P
    have hn : n1 = (R i).length := by have := hi.1.1; rw [ints_len] at this; omega
    have hn2 := hi.1.2.1
    subst hn
    obtain ⟨k, hk'⟩ : ∃ k, (R i).idxOf x.toNat = k := ⟨_, rfl⟩
    rw [hk'] at P eb hk
    obtain ⟨r, hr'⟩ : ∃ r, R i = r := ⟨_, rfl⟩
    rw [hr'] at P eb hk x0 hi hn2
    have g0 : (0 : Int) ≤ (i : Int) := by omega
    have g1 : (i : Int) < (l : Int) := by omega
    have HP := Lib.hid P
    have HO := Lib.hid O
    have HI := Lib.hid hi.1
    clear O P hi hc hb hr e ep h2 h3 h4 hk' hr'
    by_cases hout : (k : Int) + y < 0 ∨ (r.length : Int) ≤ (k : Int) + y
    · rw [if_pos hout] at eb
      rw [eb]
      clear eb
      rcases hout with ho | ho
      · have q1 : (k : Int) + y ≤ 9223372036854775807 := by omega
        have q2 : -9223372036854775808 ≤ (k : Int) + y := by omega
        go_enter Try.func107, Try.ntmps107
        go_wp2_with fail
        refine HO.out.mono ?_
        rintro e w1 ⟨rfl, rfl⟩
        go_wp2_with fail
        refine HP.out.mono ?_
        rintro e w1 ⟨rfl, rfl⟩
        go_wp2_with fail
        go_ret
        exact ⟨rfl, rfl⟩
      · have q0 : 0 ≤ (k : Int) + y := by omega
        have q1 : (k : Int) + y ≤ 9223372036854775807 := by omega
        go_enter Try.func107, Try.ntmps107
        go_wp2_with fail
        refine HO.out.mono ?_
        rintro e w1 ⟨rfl, rfl⟩
        go_wp2_with fail
        refine HP.out.mono ?_
        rintro e w1 ⟨rfl, rfl⟩
        go_wp2_with fail
        go_ret
        exact ⟨rfl, rfl⟩
    · rw [if_neg hout] at eb
      rw [eb]
      clear eb
      obtain ⟨m, hm⟩ : ∃ m : Nat, (k : Int) + y = m := ⟨((k : Int) + y).toNat, by omega⟩
      rw [hm, Int.toNat_natCast]
      have hml : m < r.length := by omega
      obtain ⟨b1, o1, rfl, -, hc1⟩ := HI.out.2.2 (by omega)
      have m0 := hc1 m hml
      rw [ints_get hml] at m0
      have eg : r.getD m 0 = r[m] := by simp [List.getD, hml]
      rw [eg]
      obtain ⟨u, hu⟩ : ∃ u : Nat, r[m] = u := ⟨_, rfl⟩
      rw [hu] at m0 ⊢
      have q0 : (0 : Int) ≤ (m : Int) := by omega
      have q1 : (m : Int) < (r.length : Int) := by omega
      have q2 : (m : Int) ≤ 9223372036854775807 := by omega
      clear hu eg hc1 hout
      go_enter Try.func107, Try.ntmps107
      go_wp2_with fail
      refine HO.out.mono ?_
      rintro e w1 ⟨rfl, rfl⟩
      go_wp2_with fail
      refine HP.out.mono ?_
      rintro e w1 ⟨rfl, rfl⟩
      have hw : IntKind.i64.wrap ((k : Int) + y) = m := by rw [hm, IntKind.wrap_i64]; omega
      clear hm
      go_wp2_with fail
      go_ret
      exact ⟨rfl, rfl⟩

/-- A call hands back rows of new memory. -/
def GivesRows (B : Nat) (w : World) (l : Nat) (R : Nat → List Nat) (e : Ending) (w' : World) : Prop :=
  ∃ A c, e = .returned (.slice A l c) ∧ RowsAt B w' A l R ∧ Below w.heap.size w w'

theorem rows_src {w : World} {A : Option Addr} {l : Nat} {R : Nat → List Nat} (h : RowsAt B w A l R) : ∃ news : List Value, Src w A l news ∧ (∀ u ∈ news, u.oneCell' = true) ∧ ∀ i, i < l → ∃ v, news[i]? = some v ∧ SliceAt B w v (ints (R i)) := by
  obtain ⟨h0, b, off, rfl, hb, hc⟩ := h
  refine ⟨(List.range l).map (fun i => (w.cell? ⟨b, off + i, none⟩).getD (.bool false)), ⟨by simp, by simp, ?_⟩, ?_, ?_⟩
  · intro ad had j u hu
    simp only [Option.some.injEq] at had
    subst had
    rw [addr_add]
    by_cases hj : j < l
    · obtain ⟨v, h1, h2⟩ := hc j hj
      simp [hj, h1] at hu
      rw [h1, hu]
    · simp [hj] at hu
  · intro u hu
    obtain ⟨i, hi, rfl⟩ := List.mem_map.1 hu
    obtain ⟨v, h1, A, n, c, rfl, _⟩ := hc i (List.mem_range.1 hi)
    simp [h1, Value.oneCell']
  · intro i hi
    obtain ⟨v, h1, h2⟩ := hc i hi
    exact ⟨v, by simp [hi, h1], h2⟩

set_option maxHeartbeats 1000000 in
theorem ref05_Put (A : Option Addr) (l c : Nat) (R : Nat → List Nat) (i : Nat) (v : Value) (r : List Nat) (w : World) (h : RowsAt B w A l R) (hi : i < l) (hv : SliceAt B w v (ints r)) :
    Calls Try.prog 105 #[.slice A l c, .int .i64 i, v] w (GivesRows B w l (PC.updR R i r)) := by
  have hinfo : (Try.prog.info? 27).map (fun i => (i.zero, i.size, i.bytes)) = some (some (.slice none 0 0), 1, 24) := by kernel_rfl
  obtain ⟨i0, hi0, hz0, hz1, hz2⟩ := info_parts hinfo
  have HI := Lib.hid hi0
  have HZ0 := Lib.hid hz0
  have HZ1 := Lib.hid hz1
  have HZ2 := Lib.hid hz2
  have hl := h.1
  obtain ⟨news, hs, h1, hn⟩ := rows_src h
  have HS := Lib.hid hs
  have H1 := Lib.hid h1
  have HN := Lib.hid hn
  have HV := Lib.hid hv
  have HH := Lib.hid h
  have g0 : (0 : Int) ≤ (i : Int) := by omega
  have g1 : (i : Int) < (l : Int) := by omega
  obtain ⟨A1, n1, c1, rfl, -⟩ := hv
  have BA := bel_alloc (Below.refl w.heap.size w) (.cells #[] 27)
  have HSA : Hid (Src (w.alloc (.cells #[] 27)) A l news) := by
    refine Lib.hid ⟨hs.1, hs.2.1, fun ad had j u hu => ?_⟩
    have := hs.2.2 ad had j u hu
    obtain ⟨h0, b, off, rfl, hb, hc⟩ := h
    simp only [Option.some.injEq] at had
    subst had
    rw [addr_add] at this ⊢
    by_cases hj : j < l
    · exact (BA.cell (p := ⟨b, off + j, none⟩) (hb (by omega)).1).trans this
    · rw [List.getElem?_eq_none (by have := hs.1; omega)] at hu; cases hu
  have hBA := Lib.hid BA
  have hBw : B ≤ w.heap.size := by
    obtain ⟨-, b, off, -, hb, -⟩ := HH.out
    have := hb (by omega)
    omega
  clear hinfo hi0 hz0 hz1 hz2 h hs h1 hn BA
  go_enter Try.func105, Try.ntmps105
  go_wp2_with (at_builtin; refine wpList_append_src _ rfl _ _ 34 rfl w.heap.size 27 i0 (.slice none 0 0) 24 Try.underlying34 HI.out HZ0.out HZ1.out HZ2.out rfl _ 0 [] rfl (own_empty w _) A l c news rfl HSA.out H1.out (by unfold maxLen; omega) (by omega) (by simp) ?_; intro v' w2 hown hgrow _; rw [Nat.zero_add, List.nil_append] at hown; obtain ⟨g, cap, rfl, hbg, hg⟩ := hown.form (by omega); have hB2 := Lib.hid (hBA.out.grown hgrow (by simp) (fun g' h' => ((own_empty w 27).lt g' h').1)); have c0 := hown.cellAt i (by omega); have f0 := hown.frozenAt i; obtain ⟨u, hu, -⟩ := HN.out i hi; rw [hu] at c0; replace hown := Lib.hid hown; clear hgrow hu)
  go_ret
  obtain ⟨hst, -⟩ := hown.out.stored i (.slice A1 n1 c1)
  have hB3 : Below w.heap.size w (w2.setCell ⟨g, i, none⟩ (.slice A1 n1 c1)) := hB2.out.setCell hbg _
  refine ⟨some ⟨g, 0, none⟩, cap, rfl, ⟨hl, g, 0, rfl, fun _ => ⟨by simpa [World.setCell] using hg, Nat.le_trans hBw hbg⟩, fun j hj => ?_⟩, hB3⟩
  rw [Nat.zero_add, hst.cellAt j (by omega), List.getElem?_set]
  by_cases e : i = j
  · subst e
    refine ⟨.slice A1 n1 c1, ?_, ?_⟩
    · rw [if_pos rfl, if_pos (by have := HS.out.1; omega)]
    · rw [PC.updR_same]; exact HV.out.keep hB3
  · obtain ⟨u, h2, h3⟩ := HN.out j hj
    refine ⟨u, ?_, ?_⟩
    · rw [if_neg e, h2]
    · rw [PC.updR_other (by omega)]; exact h3.keep hB3
end Go.Proofs.Ytdhcmnbajkpjiaa
