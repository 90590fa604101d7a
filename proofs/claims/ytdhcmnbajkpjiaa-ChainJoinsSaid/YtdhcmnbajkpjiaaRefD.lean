/-
  The reference's rows in memory: Drop.
-/
import Derived.Test.YtdhcmnbajkpjiaaRefC
import Derived.Deep.RegionHeld3
namespace Go.Proofs.Ytdhcmnbajkpjiaa
open Go.RowKit
set_option linter.unusedVariables false
attribute [local go_sem] drewN_alloc drewN_setCell

variable {B : Nat}
theorem src_take {w : World} {A : Option Addr} {n : Nat} {xs : List Int} (h : IntsAt w A n xs) {k : Nat} (hk : k ≤ n) : Src w A k ((xs.take k).map (Value.int .i64)) := by
  obtain ⟨h1, h2, h3⟩ := src_ints h
  refine ⟨by simp; have := h.1; omega, fun e => ?_, fun ad had j u hu => h3 ad had j u ?_⟩
  · have := h2 e; omega
  · rw [List.map_take, List.getElem?_take] at hu
    split at hu
    · exact hu
    · cases hu
theorem src_drop {w : World} {b off : Nat} {n : Nat} {xs : List Int} (h : IntsAt w (some ⟨b, off, none⟩) n xs) {k : Nat} (hk : k ≤ n) : Src w (some ⟨b, off + k, none⟩) (n - k) ((xs.drop k).map (Value.int .i64)) := by
  obtain ⟨h1, h2, h3⟩ := src_ints h
  refine ⟨by simp; have := h.1; omega, (fun e => by cases e), fun ad had j u hu => ?_⟩
  simp only [Option.some.injEq] at had
  subst had
  rw [List.map_drop, List.getElem?_drop] at hu
  have := h3 _ rfl _ u hu
  rw [addr_add] at this ⊢
  rwa [Nat.add_assoc]
theorem src_none {w : World} {ad : Addr} : Src w (some ad) 0 [] := ⟨rfl, (fun e => by cases e), fun _ _ j u hu => by simp at hu⟩

theorem ref05_Drop_no (A : Option Addr) (l c : Nat) (R : Nat → List Nat) (x : Int) (w : World) (h : RowsAt B w A l R) (ho : PC.ofV l R x < 0) :
    Calls Try.prog 24 #[.slice A l c, .int .i64 x] w (GivesRowsB B w l R false) := by
  have O := Lib.hid (ref05_Of A l c R x w h)
  have H := Lib.hid h
  generalize PC.ofV l R x = o at *
  clear h
  go_enter Try.func24, Try.ntmps24
  go_wp2_with fail
  refine O.out.mono ?_
  rintro e w1 ⟨rfl, rfl⟩
  go_wp2_with fail
  go_ret2
  exact ⟨A, c, rfl, H.out, Below.refl _ _⟩

theorem map_one (xs : List Int) : ∀ u ∈ xs.map (Value.int .i64), u.oneCell' = true := ints_one' xs
theorem le_max {m : Nat} (h : m ≤ 1048576) : m ≤ maxLen := by unfold maxLen; omega
theorem le_bytes {m : Nat} (h : m ≤ 1048576) : m * 8 ≤ 140737488355328 := by omega

set_option maxRecDepth 100000 in
set_option maxHeartbeats 1000000 in
theorem ref05_Drop_same (l c b off b1 o1 : Nat) (R : Nat → List Nat) (i x k : Nat) (r : List Nat) (w : World) (h : RowsAt B w (some ⟨b, off, none⟩) l R) (hi : i < l)
    (x0 : w.cell? ⟨b, off + i, none⟩ = some (.slice (some ⟨b1, o1, none⟩) r.length (k + 1))) (hbb : b < w.heap.size) (hBw : B ≤ w.heap.size) (hi1 : IntsAt w (some ⟨b1, o1, none⟩) r.length (ints r)) (hlen : r.length ≤ 1048576) (hk : k < r.length) (hle : r.length ≤ k + 1)
    (HO : Hid (Calls Try.prog 103 #[.slice (some ⟨b, off, none⟩) l c, .int .i64 x] w fun e w' => e = .returned (.int .i64 i) ∧ w = w'))
    (HP : Hid (Calls Try.prog 104 #[.slice (some ⟨b1, o1, none⟩) r.length (k + 1), .int .i64 x] w fun e w' => e = .returned (.int .i64 k) ∧ w = w')) :
    Calls Try.prog 24 #[.slice (some ⟨b, off, none⟩) l c, .int .i64 x] w (GivesRowsB B w l (PC.updR R i (r.take k ++ r.drop (k + 1))) true) := by
  have hinfo : (Try.prog.info? 3).map (fun i => (i.zero, i.size, i.bytes)) = some (some (.int .i64 0), 1, 8) := by kernel_rfl
  obtain ⟨i0, hi0, hz0, hz1, hz2⟩ := info_parts hinfo
  have HI := Lib.hid hi0
  have HZ0 := Lib.hid hz0
  have HZ1 := Lib.hid hz1
  have HZ2 := Lib.hid hz2
  have H := Lib.hid h
  have hl := h.1
  have hsrc : ∀ W, Below w.heap.size w W → Src W (some ⟨b1, o1, none⟩) 0 (((ints r).drop (k + 1)).map (Value.int .i64)) := fun W hW => by
    rw [List.drop_eq_nil_of_le (by rw [ints_len]; omega)]
    exact src_none
  have hsrc1 : ∀ W, Below w.heap.size w W → Src W (some ⟨b1, o1, none⟩) k (((ints r).take k).map (Value.int .i64)) := fun W hW => src_take (hi1.keep hW) (by omega)
  have HS1 := Lib.hid hsrc1
  have HS2 := Lib.hid hsrc
  have PU := Lib.hid (fun (W : World) (v : Value) (h : RowsAt B W (some ⟨b, off, none⟩) l R) (hv : SliceAt B W v (ints (r.take k ++ r.drop (k + 1)))) => ref05_Put (some ⟨b, off, none⟩) l c R i v (r.take k ++ r.drop (k + 1)) W h hi hv)
  have g0 : (0 : Int) ≤ (i : Int) := by omega
  have g1 : (i : Int) < (l : Int) := by omega
  have g2 : (0 : Int) ≤ (k : Int) := by omega
  have g3 : (k : Int) ≤ (((k + 1) : Nat) : Int) := by omega
  have g4 : (k : Int) + 1 ≤ (r.length : Int) := by omega
  have g5 : (r.length : Int) ≤ (((k + 1) : Nat) : Int) := by omega
  have g7 : (k : Int) ≤ (k : Int) + 1 := by omega
  have g8 : k ≤ k + 1 := by omega
  have g9 : (r.length : Int) ≤ (k : Int) + 1 := by omega
  have KS : ∀ w', Below w.heap.size w w' → (Below w.heap.size w w' ∧ w'.cell? ⟨b, off + i, none⟩ = some (.slice (some ⟨b1, o1, none⟩) r.length (k + 1))) := fun w' hb => ⟨hb, (hb.cell (p := ⟨b, off + i, none⟩) hbb).trans x0⟩
  have HKS := Lib.hid KS
  have HM : Hid (((ints r).take k).map (Value.int .i64) ++ ((ints r).drop (k + 1)).map (Value.int .i64) = (ints (r.take k ++ r.drop (k + 1))).map (Value.int .i64)) := by
    refine Lib.hid ?_
    simp [ints, List.map_append, List.map_take, List.map_drop]
  have HB : Hid (k + 0 ≤ 1048576) := Lib.hid (by omega)
  clear hinfo hi0 hz0 hz1 hz2 h KS hsrc hsrc1 hi1
  go_enter Try.func24, Try.ntmps24
  go_wp2_with fail
  refine HO.out.mono ?_
  rintro e w1 ⟨rfl, rfl⟩
  go_wp2_with fail
  refine HP.out.mono ?_
  rintro e w1 ⟨rfl, rfl⟩
  go_wp2_with fail
  have hw : IntKind.i64.wrap ((k : Int) + 1) = (k : Int) + 1 := by rw [IntKind.wrap_i64]; omega
  have ht : ((k : Int) + 1).toNat = k + 1 := by omega
  have g6 : (0 : Int) ≤ (k : Int) + 1 := by omega
  go_region_held3 (fun w' => Below w.heap.size w w' ∧ w'.cell? ⟨b, off + i, none⟩ = some (.slice (some ⟨b1, o1, none⟩) r.length (k + 1))) (exact HKS.out _ (by repeat (first | exact Below.refl _ _ | assumption | refine bel_drew ?_ | refine bel_drewN ?_ _ | refine bel_alloc ?_ _ | refine bel_set ?_ (by first | (dsimp only; omega) | (simp; done) | (simp; omega)) _ | refine bel_trans ?_ (by assumption)))) (first
    | (refine step_append_src _ rfl (.tmp 22) (.tmp 28) 27 rfl w.heap.size 3 i0 (.int .i64 0) 8 Try.underlying27 HI.out HZ0.out HZ1.out HZ2.out rfl _ 0 [] rfl (own_empty w 3).drew (some ⟨b1, o1, none⟩) k _ _ rfl (HS1.out _ (bel_alloc (Below.refl _ _) _).drew) (map_one _) (le_max (Nat.le_trans (Nat.le_trans (Nat.le_of_eq (Nat.zero_add k)) (Nat.le_of_lt hk)) hlen)) (le_bytes (Nat.le_trans (Nat.le_trans (Nat.le_of_eq (Nat.zero_add k)) (Nat.le_of_lt hk)) hlen)) (bel_alloc (Below.refl _ _) _).size ?_; intro v1 w1 hown1 hgrow1 _; have hB1 := (bel_alloc (Below.refl w.heap.size w) (.cells #[] 3)).drew.grown hgrow1 (bel_alloc (Below.refl _ _) _).size (fun g' h' => ((own_empty w 3).lt g' h').1); rw [Nat.zero_add, List.nil_append] at hown1; replace hown1 := Lib.hid hown1; clear hgrow1)
    | (refine step_append_src _ rfl (.tmp 29) (.tmp 36) 27 rfl w.heap.size 3 i0 (.int .i64 0) 8 Try.underlying27 HI.out HZ0.out HZ1.out HZ2.out rfl v1 k _ rfl hown1.out (some ⟨b1, o1, none⟩) 0 _ _ rfl (HS2.out _ hB1) (map_one _) (le_max HB.out) (le_bytes HB.out) hB1.size ?_; intro v2 w2 hown2 hgrow2 _; have hB2 := hB1.grown hgrow2 hB1.size (fun g' h' => (hown1.out.lt g' h').1); replace hown2 := Lib.hid hown2; clear hgrow2)
    | (go_simp; go_at_call 105; have hs2 : SliceAt B w2 v2 (ints (r.take k ++ r.drop (k + 1))) := (slice_of_own (HM.out ▸ hown2.out)).mono hBw; refine (PU.out w2 v2 (H.out.keep hB2) hs2).mono ?_; rintro e w3 ⟨A', c', rfl, hr3, hb3⟩; have hb3' := bel_trans hB2 hb3; replace hr3 := Lib.hid hr3; clear hs2 hb3))
  go_wp2_with fail
  go_ret2
  exact ⟨A', c', rfl, hr3.out, hb3'⟩

set_option maxRecDepth 100000 in
set_option maxHeartbeats 1000000 in
theorem ref05_Drop_far (l c b off b1 o1 : Nat) (R : Nat → List Nat) (i x k : Nat) (r : List Nat) (w : World) (c1 : Nat) (hck : ¬ c1 = k + 1) (hc1 : r.length ≤ c1) (hc2 : c1 ≤ 9223372036854775807) (h : RowsAt B w (some ⟨b, off, none⟩) l R) (hi : i < l)
    (x0 : w.cell? ⟨b, off + i, none⟩ = some (.slice (some ⟨b1, o1, none⟩) r.length c1)) (hbb : b < w.heap.size) (hBw : B ≤ w.heap.size) (hi1 : IntsAt w (some ⟨b1, o1, none⟩) r.length (ints r)) (hlen : r.length ≤ 1048576) (hk : k < r.length)
    (HO : Hid (Calls Try.prog 103 #[.slice (some ⟨b, off, none⟩) l c, .int .i64 x] w fun e w' => e = .returned (.int .i64 i) ∧ w = w'))
    (HP : Hid (Calls Try.prog 104 #[.slice (some ⟨b1, o1, none⟩) r.length c1, .int .i64 x] w fun e w' => e = .returned (.int .i64 k) ∧ w = w')) :
    Calls Try.prog 24 #[.slice (some ⟨b, off, none⟩) l c, .int .i64 x] w (GivesRowsB B w l (PC.updR R i (r.take k ++ r.drop (k + 1))) true) := by
  have hinfo : (Try.prog.info? 3).map (fun i => (i.zero, i.size, i.bytes)) = some (some (.int .i64 0), 1, 8) := by kernel_rfl
  obtain ⟨i0, hi0, hz0, hz1, hz2⟩ := info_parts hinfo
  have HI := Lib.hid hi0
  have HZ0 := Lib.hid hz0
  have HZ1 := Lib.hid hz1
  have HZ2 := Lib.hid hz2
  have H := Lib.hid h
  have hl := h.1
  have hsrc : ∀ W, Below w.heap.size w W → Src W (some ⟨b1, o1 + (k + 1), none⟩) (r.length - (k + 1)) (((ints r).drop (k + 1)).map (Value.int .i64)) := fun W hW => src_drop (hi1.keep hW) (by omega)
  have hsrc1 : ∀ W, Below w.heap.size w W → Src W (some ⟨b1, o1, none⟩) k (((ints r).take k).map (Value.int .i64)) := fun W hW => src_take (hi1.keep hW) (by omega)
  have HS1 := Lib.hid hsrc1
  have HS2 := Lib.hid hsrc
  have PU := Lib.hid (fun (W : World) (v : Value) (h : RowsAt B W (some ⟨b, off, none⟩) l R) (hv : SliceAt B W v (ints (r.take k ++ r.drop (k + 1)))) => ref05_Put (some ⟨b, off, none⟩) l c R i v (r.take k ++ r.drop (k + 1)) W h hi hv)
  have g0 : (0 : Int) ≤ (i : Int) := by omega
  have g1 : (i : Int) < (l : Int) := by omega
  have g2 : (0 : Int) ≤ (k : Int) := by omega
  have g3 : (k : Int) ≤ ((c1 : Nat) : Int) := by omega
  have g4 : (k : Int) + 1 ≤ (r.length : Int) := by omega
  have g5 : (r.length : Int) ≤ ((c1 : Nat) : Int) := by omega
  have g7 : (k : Int) ≤ (k : Int) + 1 := by omega
  have g8 : k ≤ k + 1 := by omega

  have KS : ∀ w', Below w.heap.size w w' → (Below w.heap.size w w' ∧ w'.cell? ⟨b, off + i, none⟩ = some (.slice (some ⟨b1, o1, none⟩) r.length c1)) := fun w' hb => ⟨hb, (hb.cell (p := ⟨b, off + i, none⟩) hbb).trans x0⟩
  have HKS := Lib.hid KS
  have HM : Hid (((ints r).take k).map (Value.int .i64) ++ ((ints r).drop (k + 1)).map (Value.int .i64) = (ints (r.take k ++ r.drop (k + 1))).map (Value.int .i64)) := by
    refine Lib.hid ?_
    simp [ints, List.map_append, List.map_take, List.map_drop]
  have HB : Hid (k + (r.length - (k + 1)) ≤ 1048576) := Lib.hid (by omega)
  clear hinfo hi0 hz0 hz1 hz2 h KS hsrc hsrc1 hi1
  go_enter Try.func24, Try.ntmps24
  go_wp2_with fail
  refine HO.out.mono ?_
  rintro e w1 ⟨rfl, rfl⟩
  go_wp2_with fail
  refine HP.out.mono ?_
  rintro e w1 ⟨rfl, rfl⟩
  go_wp2_with fail
  have hw : IntKind.i64.wrap ((k : Int) + 1) = (k : Int) + 1 := by rw [IntKind.wrap_i64]; omega
  have ht : ((k : Int) + 1).toNat = k + 1 := by omega
  have g6 : (0 : Int) ≤ (k : Int) + 1 := by omega
  go_region_held3 (fun w' => Below w.heap.size w w' ∧ w'.cell? ⟨b, off + i, none⟩ = some (.slice (some ⟨b1, o1, none⟩) r.length c1)) (exact HKS.out _ (by repeat (first | exact Below.refl _ _ | assumption | refine bel_drew ?_ | refine bel_drewN ?_ _ | refine bel_alloc ?_ _ | refine bel_set ?_ (by first | (dsimp only; omega) | (simp; done) | (simp; omega)) _ | refine bel_trans ?_ (by assumption)))) (first
    | (refine step_append_src _ rfl (.tmp 22) (.tmp 28) 27 rfl w.heap.size 3 i0 (.int .i64 0) 8 Try.underlying27 HI.out HZ0.out HZ1.out HZ2.out rfl _ 0 [] rfl (own_empty w 3).drew (some ⟨b1, o1, none⟩) k _ _ rfl (HS1.out _ (bel_alloc (Below.refl _ _) _).drew) (map_one _) (le_max (Nat.le_trans (Nat.le_trans (Nat.le_of_eq (Nat.zero_add k)) (Nat.le_of_lt hk)) hlen)) (le_bytes (Nat.le_trans (Nat.le_trans (Nat.le_of_eq (Nat.zero_add k)) (Nat.le_of_lt hk)) hlen)) (bel_alloc (Below.refl _ _) _).size ?_; intro v1 w1 hown1 hgrow1 _; have hB1 := (bel_alloc (Below.refl w.heap.size w) (.cells #[] 3)).drew.grown hgrow1 (bel_alloc (Below.refl _ _) _).size (fun g' h' => ((own_empty w 3).lt g' h').1); rw [Nat.zero_add, List.nil_append] at hown1; replace hown1 := Lib.hid hown1; clear hgrow1)
    | (refine step_append_src _ rfl (.tmp 29) (.tmp 36) 27 rfl w.heap.size 3 i0 (.int .i64 0) 8 Try.underlying27 HI.out HZ0.out HZ1.out HZ2.out rfl v1 k _ rfl hown1.out (some ⟨b1, o1 + (k + 1), none⟩) (r.length - (k + 1)) _ _ rfl (HS2.out _ hB1) (map_one _) (le_max HB.out) (le_bytes HB.out) hB1.size ?_; intro v2 w2 hown2 hgrow2 _; have hB2 := hB1.grown hgrow2 hB1.size (fun g' h' => (hown1.out.lt g' h').1); replace hown2 := Lib.hid hown2; clear hgrow2)
    | (go_simp; go_at_call 105; have hs2 : SliceAt B w2 v2 (ints (r.take k ++ r.drop (k + 1))) := (slice_of_own (HM.out ▸ hown2.out)).mono hBw; refine (PU.out w2 v2 (H.out.keep hB2) hs2).mono ?_; rintro e w3 ⟨A', c', rfl, hr3, hb3⟩; have hb3' := bel_trans hB2 hb3; replace hr3 := Lib.hid hr3; clear hs2 hb3))
  go_wp2_with fail
  go_ret2
  exact ⟨A', c', rfl, hr3.out, hb3'⟩

theorem ref05_Drop {A : Option Addr} {l : Nat} {R : Nat → List Nat} {w : World} (c : Nat) (x : Int) (h : RowsAt B w A l R) (hlen : ∀ i, i < l → (R i).length ≤ 1048576) :
    Calls Try.prog 24 #[.slice A l c, .int .i64 x] w (GivesRowsB B w l (PC.dropR l R x) (PC.dropB l R x)) := by
  rcases hr : PC.rowOf l R x with _ | i
  · have ho := PC.ofV_none hr
    have hb : PC.dropB l R x = false := by unfold PC.dropB; rw [ho]; rfl
    rw [hb, PC.dropR_no hb]
    exact ref05_Drop_no A l c R x w h (by omega)
  · obtain ⟨hi, h0, hm, -⟩ := PC.rowOf_some hr
    obtain ⟨x, rfl⟩ : ∃ x' : Nat, x = x' := ⟨x.toNat, by omega⟩
    rw [Int.toNat_natCast] at hm
    have e : PC.ofV l R x = i := by unfold PC.ofV; rw [hr]
    have hb' : PC.dropB l R x = true := by unfold PC.dropB; rw [e]; simp
    have hd : PC.dropR l R x = PC.updR R i (PC.cut (R i) x) := by unfold PC.dropR; rw [hr]; simp
    rw [hb', hd]
    have O := ref05_Of A l c R x w h
    rw [e] at O
    have hk := List.idxOf_lt_length_iff.2 hm
    have ep : PC.place (R i) x = ((R i).idxOf x : Nat) := by unfold PC.place; rw [if_pos ⟨by omega, by simpa using hm⟩]; simp
    have hh := h
    obtain ⟨-, b, off, rfl, hb, hc⟩ := h
    obtain ⟨v, x0, A1, n1, c1, rfl, hi1, hc1, hc2⟩ := hc i hi
    have P := ref05_Place A1 n1 c1 (R i) x w hi1.1
    rw [ep] at P
    have hn1 : n1 = (R i).length := by have := hi1.1.1; rw [ints_len] at this; omega
    subst hn1
    obtain ⟨b1, o1, rfl, -, -⟩ := hi1.1.2.2 (by omega)
    have hcut : PC.cut (R i) x = (R i).take ((R i).idxOf x) ++ (R i).drop ((R i).idxOf x + 1) := rfl
    rw [hcut]
    by_cases hck : c1 = (R i).idxOf x + 1
    · subst hck
      exact ref05_Drop_same l c b off b1 o1 R i x _ (R i) w hh hi x0 (hb (by omega)).1 (by have := hb (by omega); omega) hi1.1 (hlen i hi) hk hc1 (Lib.hid O) (Lib.hid P)
    · exact ref05_Drop_far l c b off b1 o1 R i x _ (R i) w c1 hck hc1 hc2 hh hi x0 (hb (by omega)).1 (by have := hb (by omega); omega) hi1.1 (hlen i hi) hk (Lib.hid O) (Lib.hid P)
end Go.Proofs.Ytdhcmnbajkpjiaa
