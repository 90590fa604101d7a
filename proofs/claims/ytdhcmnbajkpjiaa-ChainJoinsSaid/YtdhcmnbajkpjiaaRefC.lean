/-
  The reference's rows in memory: Add.
-/
import Derived.Test.YtdhcmnbajkpjiaaRefB
namespace Go.Proofs.Ytdhcmnbajkpjiaa
open Go.RowKit
set_option linter.unusedVariables false
attribute [local go_sem] drewN_alloc drewN_setCell

variable {B : Nat}
/-- A call hands back rows, and whether it did it. -/
def GivesRowsB (B : Nat) (w : World) (l : Nat) (R : Nat → List Nat) (b : Bool) (e : Ending) (w' : World) : Prop :=
  ∃ A c, e = .returned (.tuple #[.slice A l c, .bool b]) ∧ RowsAt B w' A l R ∧ Below w.heap.size w w'

theorem src_ints {w : World} {A : Option Addr} {n : Nat} {xs : List Int} (h : IntsAt w A n xs) : Src w A n (xs.map (Value.int .i64)) := by
  refine ⟨by simpa using h.1, fun e => ?_, fun ad had j u hu => ?_⟩
  · rcases Nat.eq_zero_or_pos n with h0 | h0
    · exact h0
    · obtain ⟨b, off, e', _⟩ := h.2.2 h0
      rw [e] at e'; cases e'
  · have hj : j < n := by
      rcases Nat.lt_or_ge j n with hj | hj
      · exact hj
      · rw [List.getElem?_eq_none (by have := h.1; simp; omega)] at hu; cases hu
    obtain ⟨b, off, e', _, hc⟩ := h.2.2 (by omega)
    rw [had] at e'
    simp only [Option.some.injEq] at e'
    subst e'
    have hl : j < xs.length := by have := h.1; omega
    rw [addr_add, hc j hj]
    simp [hl] at hu
    simp [List.getD, hl, hu]
theorem src_lit (w : World) (t : TypeId) (x : Value) : Src (w.alloc (.cells #[x] t)) (some ⟨w.heap.size, 0, none⟩) 1 [x] := by
  refine ⟨rfl, (fun e => by cases e), fun ad had j u hu => ?_⟩
  simp only [Option.some.injEq] at had
  subst had
  have hj : j = 0 := by
    rcases Nat.eq_zero_or_pos j with h | h
    · exact h
    · rw [List.getElem?_eq_none (by simp; omega)] at hu; cases hu
  subst hj
  rw [addr_add]
  simp at hu
  subst hu
  simp [go_sem]
theorem slice_of_own {w : World} {base : Nat} {t : TypeId} {v : Value} {n : Nat} {xs : List Int} (h : w.ownsRow base t 1 v n (xs.map (Value.int .i64))) : SliceAt base w v xs := by
  have hn : n ≤ 9223372036854775807 := by
    rcases h.2 with ⟨rfl, rfl⟩ | ⟨g, cap, cur, rfl, _, _, h1, h2, _⟩
    · omega
    · unfold maxLen at h2; omega
  obtain ⟨A, c, e, hi⟩ := ints_of_own h hn
  refine ⟨A, n, c, e, hi, ?_⟩
  rcases h.2 with ⟨e', rfl⟩ | ⟨g, cap, cur, e', _, _, h1, h2, _⟩
  · rw [e] at e'
    injection e' with e1 e2 e3
    omega
  · rw [e] at e'
    injection e' with e1 e2 e3
    unfold maxLen at h2
    omega

theorem ref05_Add_no (A : Option Addr) (l c n : Nat) (R : Nat → List Nat) (i x : Int) (w : World) (h : RowsAt B w A l R) (hn : n ≤ 1048576) (hb : PC.addB n l R i x = false) :
    Calls Try.prog 25 #[.slice A l c, .int .i64 n, .int .i64 i, .int .i64 x] w (GivesRowsB B w l R false) := by
  unfold PC.addB at hb
  simp only [decide_eq_false_iff_not] at hb
  have O := Lib.hid (ref05_Of A l c R x w h)
  have H := Lib.hid h
  have hl := h.1
  obtain ⟨o, ho⟩ : ∃ o, PC.ofV l R x = o := ⟨_, rfl⟩
  rw [ho] at hb O
  clear h ho
  by_cases h1 : i < 0
  · clear hb
    go_enter Try.func25, Try.ntmps25
    go_wp2_with fail
    go_ret2
    exact ⟨A, c, rfl, H.out, Below.refl _ _⟩
  · by_cases h2 : (l : Int) ≤ i
    · clear hb
      have h1' : 0 ≤ i := by omega
      go_enter Try.func25, Try.ntmps25
      go_wp2_with fail
      go_ret2
      exact ⟨A, c, rfl, H.out, Below.refl _ _⟩
    · by_cases h3 : x < 0
      · clear hb
        have h1' : 0 ≤ i := by omega
        have h2' : i < (l : Int) := by omega
        clear h1 h2
        go_enter Try.func25, Try.ntmps25
        go_wp2_with fail
        go_ret2
        exact ⟨A, c, rfl, H.out, Below.refl _ _⟩
      · by_cases h4 : (n : Int) ≤ x
        · clear hb
          have h1' : 0 ≤ i := by omega
          have h2' : i < (l : Int) := by omega
          have h3' : 0 ≤ x := by omega
          clear h1 h2 h3
          go_enter Try.func25, Try.ntmps25
          go_wp2_with fail
          go_ret2
          exact ⟨A, c, rfl, H.out, Below.refl _ _⟩
        · have h1' : 0 ≤ i := by omega
          have h2' : i < (l : Int) := by omega
          have h3' : 0 ≤ x := by omega
          have h4' : x < (n : Int) := by omega
          have h5 : 0 ≤ o := by omega
          clear h1 h2 h3 h4 hb
          go_enter Try.func25, Try.ntmps25
          go_wp2_with fail
          refine O.out.mono ?_
          rintro e w1 ⟨rfl, rfl⟩
          go_wp2_with fail
          go_ret2
          exact ⟨A, c, rfl, H.out, Below.refl _ _⟩

set_option maxRecDepth 100000 in
set_option maxHeartbeats 1000000 in
theorem ref05_Add_yes (A : Option Addr) (l c n : Nat) (R : Nat → List Nat) (i x : Nat) (w : World) (h : RowsAt B w A l R) (hn : n ≤ 1048576) (hi : i < l) (hx : x < n) (ho : PC.ofV l R x < 0) (hlen : (R i).length ≤ 1048576) :
    Calls Try.prog 25 #[.slice A l c, .int .i64 n, .int .i64 i, .int .i64 x] w (GivesRowsB B w l (PC.updR R i (R i ++ [x])) true) := by
  have hinfo : (Try.prog.info? 3).map (fun i => (i.zero, i.size, i.bytes)) = some (some (.int .i64 0), 1, 8) := by kernel_rfl
  obtain ⟨i0, hi0, hz0, hz1, hz2⟩ := info_parts hinfo
  have HI := Lib.hid hi0
  have HZ0 := Lib.hid hz0
  have HZ1 := Lib.hid hz1
  have HZ2 := Lib.hid hz2
  have O := Lib.hid (ref05_Of A l c R x w h)
  have H := Lib.hid h
  have hl := h.1
  obtain ⟨-, b, off, rfl, hb, hc⟩ := h
  obtain ⟨v, x0, A1, n1, c1, rfl, hi1, -⟩ := hc i hi
  obtain ⟨r, hr⟩ : ∃ r, R i = r := ⟨_, rfl⟩
  rw [hr] at hi1 hlen ⊢
  have hn1 : n1 = r.length := by have := hi1.1.1; rw [ints_len] at this; omega
  have hn2 : n1 ≤ 1048576 := by omega
  replace hi1 := Lib.hid hi1
  have HN1 := Lib.hid hn1
  generalize PC.ofV l R x = o at *
  have P := Lib.hid (fun (A' : Option Addr) (c' : Nat) (W : World) (v : Value) (h : RowsAt B W (some ⟨b, off, none⟩) l R) (hv : SliceAt B W v (ints (r ++ [x]))) => ref05_Put (some ⟨b, off, none⟩) l c R i v (r ++ [x]) W h hi hv)
  have g0 : (0 : Int) ≤ (i : Int) := by omega
  have g1 : (i : Int) < (l : Int) := by omega
  have g2 : (0 : Int) ≤ (x : Int) := by omega
  have g3 : (x : Int) < (n : Int) := by omega
  have BA := Lib.hid (bel_alloc (Below.refl w.heap.size w) (.cells #[] 3))
  have HS1 := Lib.hid (src_ints (hi1.out.1.keep BA.out))
  have H1 := Lib.hid (ints_one' (ints r))
  have hbb : b < w.heap.size := (hb (by omega)).1
  have hBw : B ≤ w.heap.size := by have := hb (by omega); omega
  clear hinfo hi0 hz0 hz1 hz2 hb hc hr hn1
  go_enter Try.func25, Try.ntmps25
  go_wp2_with fail
  refine O.out.mono ?_
  rintro e w1 ⟨rfl, rfl⟩
  go_wp2_with (first
    | (at_builtin; refine wpList_append_src _ rfl (.tmp 36) (.tmp 40) 27 rfl w.heap.size 3 i0 (.int .i64 0) 8 Try.underlying27 HI.out HZ0.out HZ1.out HZ2.out rfl _ 0 [] rfl (own_empty w 3) A1 n1 c1 _ rfl HS1.out H1.out (by unfold maxLen; omega) (by omega) (by simp) ?_; intro v1 w1 hown1 hgrow1 _; have hB1 := Lib.hid (BA.out.grown hgrow1 (by simp) (fun g' h' => ((own_empty w 3).lt g' h').1)); rw [Nat.zero_add, List.nil_append] at hown1; replace hown1 := Lib.hid hown1; clear hgrow1)
    | (at_builtin; refine wpList_append_src _ rfl (.tmp 41) (.tmp 43) 27 rfl w.heap.size 3 i0 (.int .i64 0) 8 Try.underlying27 HI.out HZ0.out HZ1.out HZ2.out rfl v1 n1 _ rfl (hown1.out.alloc (.cells #[.int .i64 x] 3)) (some ⟨w1.heap.size, 0, none⟩) 1 1 [.int .i64 x] rfl (src_lit w1 3 (.int .i64 x)) (by simp [Value.oneCell']) (by unfold maxLen; omega) (by omega) (by have := hB1.out.size; simp; omega) ?_; intro v2 w2 hown2 hgrow2 _; have hB2 := Lib.hid ((bel_alloc hB1.out (.cells #[.int .i64 x] 3)).grown hgrow2 (by have := hB1.out.size; simp; omega) (fun g' h' => (hown1.out.lt g' h').1)); replace hown2 := Lib.hid hown2; clear hgrow2))
  have hs2 : SliceAt B w2 v2 (ints (r ++ [x])) := (slice_of_own (n := n1 + 1) (base := w.heap.size) (t := 3) (by have := hown2.out; simpa [ints] using this)).mono hBw
  refine (P.out none 0 w2 v2 (H.out.keep hB2.out) hs2).mono ?_
  rintro e w3 ⟨A', c', rfl, hr3, hb3⟩
  have hr3' := Lib.hid hr3
  have hb3' := Lib.hid (bel_trans hB2.out hb3)
  clear hr3 hb3 hs2
  go_wp2_with fail
  go_ret2
  exact ⟨A', c', rfl, hr3'.out, hb3'.out⟩

theorem ref05_Add {A : Option Addr} {l n : Nat} {R : Nat → List Nat} {w : World} (c : Nat) (i x : Int) (h : RowsAt B w A l R) (hn : n ≤ 1048576) (hlen : ∀ i, i < l → (R i).length ≤ 1048576) :
    Calls Try.prog 25 #[.slice A l c, .int .i64 n, .int .i64 i, .int .i64 x] w (GivesRowsB B w l (PC.addR n l R i x) (PC.addB n l R i x)) := by
  by_cases hb : PC.addB n l R i x = true
  · have hb' := hb
    unfold PC.addB at hb'
    simp only [decide_eq_true_eq] at hb'
    obtain ⟨h0, h1, h2, h3, h4⟩ := hb'
    obtain ⟨i', rfl⟩ : ∃ i' : Nat, i = i' := ⟨i.toNat, by omega⟩
    obtain ⟨x', rfl⟩ : ∃ x' : Nat, x = x' := ⟨x.toNat, by omega⟩
    have e : PC.addR n l R i' x' = PC.updR R i' (R i' ++ [x']) := by unfold PC.addR; rw [if_pos hb]; simp
    rw [e, hb]
    exact ref05_Add_yes A l c n R i' x' w h hn (by omega) (by omega) h4 (hlen i' (by omega))
  · have hb' : PC.addB n l R i x = false := by simpa using hb
    rw [PC.addR_no hb', hb']
    exact ref05_Add_no A l c n R i x w h hn hb'
end Go.Proofs.Ytdhcmnbajkpjiaa
