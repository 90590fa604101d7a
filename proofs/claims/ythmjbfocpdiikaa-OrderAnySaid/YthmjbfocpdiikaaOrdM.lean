/-
  order.Short.
-/
import Derived.Test.YthmjbfocpdiikaaOrdL
import Derived.Test.YthmjbfocpdiikaaOrdI
namespace Go.Proofs.Ythmjbfocpdiikaa
open Go.RowKit
set_option linter.unusedVariables false
set_option linter.unusedSimpArgs false
namespace PO
def doneOf (f : Int) (l : List Mem) : List Nat := if may f l = true then takenAll f l else []
end PO
def pick (D : List Nat) (k : Nat) : List Nat := (List.range k).filter (fun j => !D.contains j)
namespace PO
def short (f : Int) (l : List Mem) : List Nat := pick (doneOf f l) l.length
end PO
theorem pick_le (D : List Nat) (k : Nat) : (pick D k).length ≤ k := by
  have := List.length_filter_le (fun j => !D.contains j) (List.range k)
  rw [List.length_range] at this
  exact this
theorem pick_yes {D : List Nat} {k : Nat} (h : k ∈ D) : pick D (k + 1) = pick D k := by
  unfold pick
  rw [List.range_succ, List.filter_append]
  simp [h]
theorem pick_no {D : List Nat} {k : Nat} (h : k ∉ D) : pick D (k + 1) = pick D k ++ [k] := by
  unfold pick
  rw [List.range_succ, List.filter_append]
  simp [h]
def ShRel (X : World) (n : Nat) (D : List Nat) (out i : Value) (wr : World) : Prop :=
  ∃ (k : Nat) (A : Option Addr) (c : Nat), k ≤ n ∧ i = .int .i64 k ∧ out = .slice A (pick D k).length c ∧ OwnI X.heap.size wr out (PO.ints (pick D k)) ∧ Below X.heap.size X wr
theorem OwnI.putObj {B k : Nat} {w : World} {v : Value} {l : List Int} {ob : Obj} (h : OwnI B w v l) (hk : k < B) : OwnI B (w.putObj k ob) v l := by
  refine ⟨h.1, ?_⟩
  rcases h.2 with ⟨rfl, e⟩ | ⟨g, cap, cur, rfl, hb, hgg, r⟩
  · exact .inl ⟨rfl, e⟩
  · exact .inr ⟨g, cap, cur, rfl, hb, (World.putObj_heap_other (by omega)).trans hgg, r⟩
/-- What Short's own cells hold between two rounds. -/
def ShI (w : World) (s n : Nat) (xs : List (Nat × Int)) (X : World) : Prop :=
  X.cell? ⟨s + 1, 0, none⟩ = some (.slice (some ⟨s, 0, none⟩) n n) ∧ (∀ j, X.frozen? ⟨s, j, none⟩ = false) ∧ DoneAt X s n (xs.map (·.1)) ∧ Below w.heap.size w X ∧ w.heap.size ≤ s ∧ s + 1 < X.heap.size
theorem ShI.grown {w X Y : World} {s n : Nat} {xs : List (Nat × Int)} {row : Option Nat} (h : ShI w s n xs X) (hg : X.grownBy Y row) (hr : ∀ r, row = some r → s + 2 ≤ r) : ShI w s n xs Y := by
  obtain ⟨h1, h2, h3, h4, h5, h6⟩ := h
  have hne : some (s + 1) ≠ row := fun e => by have := hr _ e.symm; omega
  have hne2 : some s ≠ row := fun e => by have := hr _ e.symm; omega
  refine ⟨hg.cell h1 hne, fun j => (hg.frozen_far ⟨s, j, none⟩ (by dsimp only; omega) hne2).trans (h2 j), fun j hj => hg.cell (h3 j hj) hne2, h4.grown hg h4.size (fun k e => by have := hr k e; omega), h5, Nat.lt_of_lt_of_le h6 hg.size⟩
def ShK (t n : Nat) (A : Option Addr) (X Y : World) : Prop :=
  X.heap.size ≤ Y.heap.size ∧ ∀ k, k < X.heap.size → (k = t ∨ k = t + 1 ∨ k = t + 4 ∨ k = t + 5 ∨ (0 < n ∧ ∃ off, A = some ⟨k, off, none⟩)) → Y.heap[k]? = X.heap[k]?
theorem ShK.trans {t n : Nat} {A : Option Addr} {X Y Z : World} (h : ShK t n A X Y) (k : ShK t n A Y Z) : ShK t n A X Z :=
  ⟨Nat.le_trans h.1 k.1, fun i hi hh => (k.2 i (Nat.lt_of_lt_of_le hi h.1) hh).trans (h.2 i hi hh)⟩
theorem name_calls {P : Program} {g : Nat} {args : Array Value} {w : World} {Q : Ending → World → Prop} (h : ∀ W, W = w → Calls P g args W Q) : Calls P g args w Q := h w rfl
attribute [local go_sem] drewN_alloc drewN_setCell Oper.semAt_some

set_option maxRecDepth 100000 in
set_option maxHeartbeats 8000000 in
theorem order_Short_no {A : Option Addr} {n : Nat} {l : List PO.Mem} (c : Nat) (f : Int) {w : World} (h : MemAt w A n l) (hn : n ≤ 1000) (hm : PO.may f l = false) :
    Calls Try.prog 48 #[.int .i64 f, .slice A n c] w (GivesOwn w (PO.ints (PO.short f l))) := by
  have K1 : Hid (∀ W, Below w.heap.size w W → Calls Try.prog 68 #[.int .i64 f, .slice A n c] W fun e w' => e = .returned (.bool false) ∧ Below W.heap.size W w') := Lib.hid (fun W hW => by have K := order_may c f (h.keep hW); rwa [hm] at K)
  have hinfo : (Try.prog.info? 4).map (fun i => (i.zero, i.size, i.bytes)) = some (some (.bool false), 1, 1) := by kernel_rfl
  have hmk := run_make_row' (P := Try.prog) 95 4 (.bool false) 1 Try.underlying95 hinfo rfl .i64 .i64 n (by omega) (by omega)
  obtain ⟨Z, hZ⟩ : ∃ Z, madeCells #[Value.bool false] n = Z := ⟨_, rfl⟩
  rw [hZ] at hmk
  have hl := h.1
  have hS : PO.short f l = pick [] n := by unfold PO.short PO.doneOf; rw [hm, if_neg (by simp), hl]
  rw [hS]
  clear h hm hinfo hS
  go_enter Try.func48, Try.ntmps48
  go_wp2_with fail
  refine name_calls ?_
  intro V hV
  have hV' : (w.alloc (.cells Z 4)).alloc (.cells #[.slice (some ⟨w.heap.size, 0, none⟩) n n] 95) = V := hV.symm
  have hbV : Below w.heap.size w V := by rw [← hV']; exact (by repeat (first | exact Below.refl _ _ | assumption | refine bel_drew ?_ | refine bel_drewN ?_ _ | refine bel_alloc ?_ _ | refine bel_set ?_ (by first | (dsimp only; omega) | (simp; done) | (simp; omega)) _ | refine bel_trans ?_ (by assumption)))
  have sV : V.heap.size = w.heap.size + 2 := by rw [← hV']; simp
  have co : V.cell? ⟨w.heap.size + 1, 0, none⟩ = some (.slice (some ⟨w.heap.size, 0, none⟩) n n) := by rw [← hV']; simp [go_sem]
  have vD : DoneAt V w.heap.size n [] := fun j hj => by
    rw [← hV', World.cell?_alloc_lt _ _ _ (by simp)]
    have : (w.alloc (.cells Z 4)).cell? ⟨w.heap.size, j, none⟩ = Z[j]? := by simp [go_sem]
    rw [this, ← hZ]
    simp [madeCells, hj, Nat.mod_one]
  obtain ⟨s, hs⟩ : ∃ s, w.heap.size = s := ⟨_, rfl⟩
  rw [hs] at sV co vD
  clear hV hV' hmk hZ
  refine (K1.out V hbV).mono ?_
  rintro e X ⟨rfl, h1⟩
  have hX : Below w.heap.size w X := bel_trans hbV h1
  have c1 := (h1.cell (p := ⟨s + 1, 0, none⟩) (by dsimp only; omega)).trans co
  obtain ⟨D, hDD⟩ : ∃ D : List Nat, [] = D := ⟨_, rfl⟩
  have HD : Hid (DoneAt X s n D) := Lib.hid (fun j hj => by rw [← hDD]; exact (h1.cell (p := ⟨s, j, none⟩) (by dsimp only; omega)).trans (vD j hj))
  have HDD := Lib.hid hDD
  clear hDD
  have HSX : Hid (s + 2 ≤ X.heap.size) := Lib.hid (by have := h1.size; omega)
  rw [hs]
  clear co vD
  go_wp2_with fail
  go_loopw [5, 26] (fun out i wr => ShRel X n D out i wr) (fun _ i _ => n - (intOf i).toNat)
  case atStart => exact ⟨0, none, 0, Nat.zero_le _, rfl, rfl, OwnI.nil _ _, Below.refl _ _⟩
  case round =>
    obtain ⟨k, A1, c1_1, hk, rfl, rfl, hown, hbel⟩ := hrel
    have HO := Lib.hid hown
    clear hown
    have hsX := HSX.out
    by_cases hlt : (k : Int) < (n : Int)
    · have hkn : k < n := by omega
      have xk := (hbel.cell (p := ⟨s, k, none⟩) (by dsimp only; omega)).trans (HD.out k hkn)
      have j1 : (0 : Int) ≤ (k : Int) := by omega
      have j2 : (k : Int) < (n : Int) := hlt
      have hlen := pick_le D k
      by_cases hin : k ∈ D
      · rw [decide_eq_true hin] at xk
        have HPK := Lib.hid (pick_yes (k := k) hin)
        clear hin
        go_wp2_with fail
        go_roundw
        case rel => exact ⟨k + 1, A1, c1_1, by omega, by go_num, by rw [HPK.out], by rw [HPK.out]; exact HO.out, hbel⟩
        case measure => simp [intOf] <;> omega
      · rw [decide_eq_false hin] at xk
        have HPK := Lib.hid (pick_no (k := k) hin)
        clear hin
        have hsz := hbel.size
        have hle : (PO.ints (pick D k)).length + 1 ≤ 1048576 := by rw [PO.ints_len]; omega
        go_wp2_with (at_builtin; refine app_listI rfl (.tmp 33) (.tmp 35) rfl X.heap.size _ (PO.ints (pick D k)) rfl (HO.out.keep (bel_alloc (Below.refl _ _) _)) (some ⟨wr.heap.size, 0, none⟩) 1 1 [(k : Int)] rfl (src_oneI (by simp [go_sem])) hle (by simp; omega) ?_; intro v9 w9 ho9 hb9; rw [← PO.ints_snoc, ← HPK.out] at ho9; obtain ⟨A9, c9, rfl, _⟩ := ho9.slice; replace ho9 := Lib.hid ho9; have b9 : Below X.heap.size X w9 := bel_trans' (bel_alloc hbel _) hb9 (Nat.le_refl _))
        go_roundw
        case rel => exact ⟨k + 1, A9, c9, by omega, by go_num, rfl, ho9.out, b9⟩
        case measure => simp [intOf] <;> omega
    · obtain rfl : k = n := by omega
      have HFIN : Hid (GivesOwn w (PO.ints (pick [] k)) (.returned (.slice A1 (pick D k).length c1_1)) wr) := Lib.hid (by rw [HDD.out]; exact ⟨_, rfl, HO.out.mono hX.size, bel_trans' hX hbel hX.size⟩)
      go_wp2_with fail
      go_ret
      exact HFIN.out

set_option maxRecDepth 100000 in
set_option maxHeartbeats 16000000 in
theorem order_Short_yes {A : Option Addr} {n : Nat} {l : List PO.Mem} (c : Nat) (f : Int) {w : World} (h : MemAt w A n l) (hn : n ≤ 1000) (hm : PO.may f l = true) :
    Calls Try.prog 48 #[.int .i64 f, .slice A n c] w (GivesOwn w (PO.ints (PO.short f l))) := by
  have K1 : Hid (∀ W, Below w.heap.size w W → Calls Try.prog 68 #[.int .i64 f, .slice A n c] W fun e w' => e = .returned (.bool true) ∧ Below W.heap.size W w') := Lib.hid (fun W hW => by have K := order_may c f (h.keep hW); rwa [hm] at K)
  have hinfo : (Try.prog.info? 4).map (fun i => (i.zero, i.size, i.bytes)) = some (some (.bool false), 1, 1) := by kernel_rfl
  have hmk := run_make_row' (P := Try.prog) 95 4 (.bool false) 1 Try.underlying95 hinfo rfl .i64 .i64 n (by omega) (by omega)
  obtain ⟨Z, hZ⟩ : ∃ Z, madeCells #[Value.bool false] n = Z := ⟨_, rfl⟩
  rw [hZ] at hmk
  have hl := h.1
  have hS : PO.short f l = pick (PO.takenAll f l) n := by unfold PO.short PO.doneOf; rw [hm, if_pos rfl, hl]
  rw [hS]
  have HM := Lib.hid hm
  have H := Lib.hid h
  clear h hm hinfo hS
  refine callsIn_wide (n := 3) |>.1 ?_
  refine callsIn_of_wp_marks Try.func48 rfl trivial ?_ rfl
  simp only [Try.ntmps48, List.size_toArray, List.length_cons, List.length_nil, Nat.reduceAdd, Nat.reduceSub, Array.replicate_succ, Array.replicate_zero, List.push_toArray, List.append_toArray, List.nil_append, List.cons_append]
  refine wpIn_wide.2 ?_
  go_wp2_with fail
  refine name_calls ?_
  intro V hV
  have hV' : (w.alloc (.cells Z 4)).alloc (.cells #[.slice (some ⟨w.heap.size, 0, none⟩) n n] 95) = V := hV.symm
  have hbV : Below w.heap.size w V := by rw [← hV']; exact (by repeat (first | exact Below.refl _ _ | assumption | refine bel_drew ?_ | refine bel_drewN ?_ _ | refine bel_alloc ?_ _ | refine bel_set ?_ (by first | (dsimp only; omega) | (simp; done) | (simp; omega)) _ | refine bel_trans ?_ (by assumption)))
  have sV : V.heap.size = w.heap.size + 2 := by rw [← hV']; simp
  have co : V.cell? ⟨w.heap.size + 1, 0, none⟩ = some (.slice (some ⟨w.heap.size, 0, none⟩) n n) := by rw [← hV']; simp [go_sem]
  have vF : ∀ j, V.frozen? ⟨w.heap.size, j, none⟩ = false := fun j => by rw [← hV']; simp [go_sem]
  have vD : DoneAt V w.heap.size n [] := fun j hj => by
    rw [← hV', World.cell?_alloc_lt _ _ _ (by simp)]
    have : (w.alloc (.cells Z 4)).cell? ⟨w.heap.size, j, none⟩ = Z[j]? := by simp [go_sem]
    rw [this, ← hZ]
    simp [madeCells, hj, Nat.mod_one]
  obtain ⟨s, hs⟩ : ∃ s, w.heap.size = s := ⟨_, rfl⟩
  have hI0 : ShI w s n [] V := by rw [← hs]; exact ⟨co, vF, vD, hbV, Nat.le_refl _, by omega⟩
  have HAB : Hid (0 < n → ∀ b off, A = some ⟨b, off, none⟩ → b < s) := Lib.hid (fun h0 b off e => by
    obtain ⟨b', off', e', hb, _⟩ := H.out.2.2.2 h0
    rw [e] at e'
    cases e'
    omega)
  rw [hs]
  clear hV hV' hmk hZ co vF vD
  refine (K1.out V hbV).mono ?_
  rintro e w1 ⟨rfl, h1⟩
  have gI : ∀ {X Y : World}, Below X.heap.size X Y → X.grownBy Y none := fun hb => ⟨hb.os, hb.tape, hb.output, hb.size, fun i hi _ => hb.block i hi⟩
  have hI1 : ShI w s n [] w1 := hI0.grown (gI h1) (fun r e => by cases e)
  go_wp2_with fail
  refine (order_taken A n c f _).mono ?_
  rintro e w2 ⟨rfl, hw2⟩
  have h12 : Below w1.heap.size w1 w2 := by rw [← hw2]; exact (by repeat (first | exact Below.refl _ _ | assumption | refine bel_drew ?_ | refine bel_drewN ?_ _ | refine bel_alloc ?_ _ | refine bel_set ?_ (by first | (dsimp only; omega) | (simp; done) | (simp; omega)) _ | refine bel_trans ?_ (by assumption)))
  have hI2 : ShI w s n [] w2 := hI1.grown (gI h12) (fun r e => by cases e)
  have hs2 : w2.heap.size = w1.heap.size + 2 := by rw [← hw2]; simp
  have cf : w2.cell? ⟨w1.heap.size, 0, none⟩ = some (.int .i64 f) := by rw [← hw2]; simp [go_sem]
  have cff : w2.frozen? ⟨w1.heap.size, 0, none⟩ = false := by rw [← hw2]; simp [go_sem]
  have cl : w2.cell? ⟨w1.heap.size + 1, 0, none⟩ = some (.slice A n c) := by rw [← hw2]; simp [go_sem]
  have hts : s + 2 ≤ w1.heap.size := by have := h1.size; omega
  obtain ⟨t, ht⟩ : ∃ t, w1.heap.size = t := ⟨_, rfl⟩
  rw [ht] at hs2 cf cff cl hts
  rw [ht]
  have hM2 := H.out.keep hI2.2.2.2.1
  clear hw2 h12 hI0 hI1 K1 h1 hbV
  go_wp2_with fail
  refine (wpIn_wide (n := 3)).1 ?_
  refine range_plainP (gf := 94) (lb := #[.pointer (some ⟨t + 1, 0, none⟩), .pointer (some ⟨t, 0, none⟩)]) (encs := fun x : Nat × Int => #[.int .i64 (x.1 : Int), .int .i64 x.2]) rfl (fun args w => by simp [go_sem]) (fun x => rfl)
    (fun xs X => ShI w s n xs X) (fun X Y => ShK t n A X Y) (fun xs => xs.map (·.1) = PO.takenAll f l) (fun x => x.1 < n) (fun r => r = t ∨ r = t + 4 ∨ r = t + 5) (t + 6) n ?_ ?_ ?_ ?_ ?_ ?_ ?_ ?_
    (fun x => { tmps := #[.int .i64 f, .slice A n c, undef, undef, .slice none 0 0, .slice none 0 0, .pointer (some ⟨s + 1, 0, none⟩), .int .i64 (x.1 : Int), undef, undef, .slice A n c, .int .i64 (n : Int), .slice (some ⟨s, 0, none⟩) n n, .int .i64 f, .slice A n c, .bool true, .int .i64 f, .slice A n c, .func (.func 94) #[] #[.pointer (some ⟨t + 1, 0, none⟩), .pointer (some ⟨t, 0, none⟩)], .int .i64 (x.1 : Int), .int .i64 x.2, undef, undef, undef, undef, undef, undef, undef, undef, undef, undef, undef, undef, undef, undef, undef, undef, undef, undef], defers := [] }) ?_ ?_ ?_
  · exact fun xs X Y row hI hg hr => hI.grown hg (fun r e => by rcases hr r e with h | h | h <;> omega)
  · rw [hs2]; omega
  · rw [hs2]; omega
  · intro xs X o hI hlt
    exact hI.grown (grownBy_putObj' X _ o) (fun r e => by cases e; rw [hs2]; omega)
  · intro X o hlt
    refine ⟨by simp, fun k hk hh => World.putObj_heap_other ?_⟩
    rw [hs2]
    rcases hh with h | h | h | h | ⟨h0, off, e⟩
    · omega
    · omega
    · omega
    · omega
    · have := HAB.out h0 k off e; omega
  · exact fun X Y Z h k => h.trans k
  · intro o
    exact (hI2.grown (World.grownBy_alloc _ _ none) (fun r e => by cases e)).grown (World.grownBy_alloc _ _ none) (fun r e => by cases e)
  · intro o
    obtain ⟨W, hW⟩ : ∃ W, (w2.alloc (.deferred (some []))).alloc o = W := ⟨_, rfl⟩
    rw [hW]
    have hbW : Below w2.heap.size w2 W := by rw [← hW]; exact (by repeat (first | exact Below.refl _ _ | assumption | refine bel_drew ?_ | refine bel_drewN ?_ _ | refine bel_alloc ?_ _ | refine bel_set ?_ (by first | (dsimp only; omega) | (simp; done) | (simp; omega)) _ | refine bel_trans ?_ (by assumption)))
    have sW : W.heap.size = t + 4 := by rw [← hW]; simp [hs2]
    have q := taken_iterP c (t + 1) t (w2.heap.size + 1) f (hM2.keep hbW) hn HM.out ((hbW.cell (p := ⟨t + 1, 0, none⟩) (by dsimp only; omega)).trans cl) ((hbW.cell (p := ⟨t, 0, none⟩) (by dsimp only; omega)).trans cf) ((hbW.frozen (p := ⟨t, 0, none⟩) (by dsimp only; omega)).trans cff) (by omega)
      (fun h0 b off e => by have := HAB.out h0 b off e; omega) (ShK t n A) (fun X Y h => ⟨h.1, fun k hk hh => h.2 k hk (by rw [sW] at hh; rcases hh with h | h | h | h | h <;> simp [h])⟩)
    rw [sW] at q
    exact q
  · intro L m x W K hK
    gi_wp2
    exact hK
  · rintro L m pre x X hok hI hlt hsz hN
    clear hM2 hI2 cf cff cl
    obtain ⟨c1, f1, d1, b1, _, z1⟩ := hI
    have xc := d1 x.1 hok
    have xf := f1 x.1
    have i0 : (0 : Int) ≤ (x.1 : Int) := by omega
    have i1 : (x.1 : Int) < (n : Int) := by omega
    have HD1 := Lib.hid d1
    have HF1 := Lib.hid f1
    clear d1 f1
    rw [hs2] at hlt ⊢
    gi_wp2
    have key : ∀ k, k ≠ s → (X.setCell ⟨s, x.1, none⟩ (.bool true)).heap[k]? = X.heap[k]? := fun k hk => Below.heap_setCell _ _ _ _ (by dsimp only; omega)
    refine ⟨key _ (by omega), key _ (by omega), ⟨by simp, fun k hk hh => key k ?_⟩, ?_⟩
    · rcases hh with h | h | h | h | ⟨h0, off, e⟩
      · omega
      · omega
      · omega
      · omega
      · have := HAB.out h0 k off e; omega
    · refine ⟨(World.cell?_setCell_other _ _ _ _ (by simp)).trans c1, fun j => by rw [World.frozen?_setCell]; exact HF1.out j, ?_, b1.setCell (by dsimp only; omega) _, by omega, by simpa using z1⟩
      rw [List.map_append]
      exact HD1.out.add hok
  · rintro xs X hSS hI hK
    clear hM2 hI2 cf cff cl
    obtain ⟨c1, f1, d1, b1, _, z1⟩ := hI
    rw [hSS] at d1
    rw [hs2] at hK ⊢
    obtain ⟨D, hDD⟩ : ∃ D, PO.takenAll f l = D := ⟨_, rfl⟩
    rw [hDD] at d1
    have HD := Lib.hid d1
    have HSX : Hid (s + 2 ≤ X.heap.size) := Lib.hid (by omega)
    have htX : t + 2 < X.heap.size := (Array.getElem?_eq_some_iff.1 hK).1
    have HKX := Lib.hid hK
    have HDD := Lib.hid hDD
    clear d1 f1 hSS hDD hK
    go_wp2_with fail
    go_loopw [5, 26] (fun out i wr => ShRel X n D out i wr) (fun _ i _ => n - (intOf i).toNat)
    case atStart => exact ⟨0, none, 0, Nat.zero_le _, rfl, rfl, OwnI.nil _ _, Below.refl _ _⟩
    case round =>
      obtain ⟨k, A1, c1_1, hk, rfl, rfl, hown, hbel⟩ := hrel
      have HO := Lib.hid hown
      clear hown
      have hsX := HSX.out
      by_cases hlt : (k : Int) < (n : Int)
      · have hkn : k < n := by omega
        have xk := (hbel.cell (p := ⟨s, k, none⟩) (by dsimp only; omega)).trans (HD.out k hkn)
        have j1 : (0 : Int) ≤ (k : Int) := by omega
        have j2 : (k : Int) < (n : Int) := hlt
        have hlen := pick_le D k
        by_cases hin : k ∈ D
        · rw [decide_eq_true hin] at xk
          have HPK := Lib.hid (pick_yes (k := k) hin)
          clear hin
          go_wp2_with fail
          go_roundw
          case rel => exact ⟨k + 1, A1, c1_1, by omega, by go_num, by rw [HPK.out], by rw [HPK.out]; exact HO.out, hbel⟩
          case measure => simp [intOf] <;> omega
        · rw [decide_eq_false hin] at xk
          have HPK := Lib.hid (pick_no (k := k) hin)
          clear hin
          have hsz := hbel.size
          have hle : (PO.ints (pick D k)).length + 1 ≤ 1048576 := by rw [PO.ints_len]; omega
          go_wp2_with (at_builtin; refine app_listI rfl (.tmp 33) (.tmp 35) rfl X.heap.size _ (PO.ints (pick D k)) rfl (HO.out.keep (bel_alloc (Below.refl _ _) _)) (some ⟨wr.heap.size, 0, none⟩) 1 1 [(k : Int)] rfl (src_oneI (by simp [go_sem])) hle (by simp; omega) ?_; intro v9 w9 ho9 hb9; rw [← PO.ints_snoc, ← HPK.out] at ho9; obtain ⟨A9, c9, rfl, _⟩ := ho9.slice; replace ho9 := Lib.hid ho9; have b9 : Below X.heap.size X w9 := bel_trans' (bel_alloc hbel _) hb9 (Nat.le_refl _))
          go_roundw
          case rel => exact ⟨k + 1, A9, c9, by omega, by go_num, rfl, ho9.out, b9⟩
          case measure => simp [intOf] <;> omega
      · obtain rfl : k = n := by omega
        have hKW := (hbel.block (t + 2) (by omega)).trans HKX.out
        have HFIN : Hid (GivesOwn w (PO.ints (pick D k)) (.returned (.slice A1 (pick D k).length c1_1)) (wr.putObj (t + 2) (.deferred none))) := Lib.hid ⟨_, rfl, (HO.out.putObj (by omega)).mono b1.size, (bel_trans' b1 hbel b1.size).grown (grownBy_putObj' _ _ _) (by have := b1.size; have := hbel.size; omega) (fun r e => by cases e; omega)⟩
        go_wp2_with fail
        refine ⟨by simp, .inl ⟨_, _, rfl, run_takeDeferred hKW, ?_⟩⟩
        exact ⟨.slice A1 (pick D k).length c1_1, by simp [results, Try.results48, go_sem], by rw [HDD.out]; exact HFIN.out⟩
theorem order_Short {A : Option Addr} {n : Nat} {l : List PO.Mem} (c : Nat) (f : Int) {w : World} (h : MemAt w A n l) (hn : n ≤ 1000) :
    Calls Try.prog 48 #[.int .i64 f, .slice A n c] w (GivesOwn w (PO.ints (PO.short f l))) := by
  cases hm : PO.may f l
  · exact order_Short_no c f h hn hm
  · exact order_Short_yes c f h hn hm
end Go.Proofs.Ythmjbfocpdiikaa
