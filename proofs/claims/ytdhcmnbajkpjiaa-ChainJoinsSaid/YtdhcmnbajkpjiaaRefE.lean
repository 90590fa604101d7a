/-
  The reference's rows in memory: Join.
-/
import Derived.Test.YtdhcmnbajkpjiaaChainP
import Derived.Deep.RegionHeld3
namespace Go.Proofs.Ytdhcmnbajkpjiaa
open Go.RowKit
set_option linter.unusedVariables false
attribute [local go_sem] drewN_alloc drewN_setCell

variable {B : Nat}
theorem le_max2 {m : Nat} (h : m ≤ 2097152) : m ≤ maxLen := by unfold maxLen; omega
theorem le_bytes2 {m : Nat} (h : m ≤ 2097152) : m * 8 ≤ 140737488355328 := by omega
theorem ref05_Join_no (A : Option Addr) (l c : Nat) (R : Nat → List Nat) (t f : Int) (w : World) (h : RowsAt B w A l R) (hb : PC.joinB l t f = false) :
    Calls Try.prog 33 #[.slice A l c, .int .i64 t, .int .i64 f] w (GivesRowsB B w l R false) := by
  unfold PC.joinB at hb
  simp only [decide_eq_false_iff_not] at hb
  have H := Lib.hid h
  have hl := h.1
  clear h
  by_cases h1 : t < 0
  · clear hb
    go_enter Try.func33, Try.ntmps33
    go_wp2_with fail
    go_ret2
    exact ⟨A, c, rfl, H.out, Below.refl _ _⟩
  · have h1' : 0 ≤ t := by omega
    by_cases h2 : (l : Int) ≤ t
    · clear hb h1
      go_enter Try.func33, Try.ntmps33
      go_wp2_with fail
      go_ret2
      exact ⟨A, c, rfl, H.out, Below.refl _ _⟩
    · have h2' : t < (l : Int) := by omega
      by_cases h3 : f < 0
      · clear hb h1 h2
        go_enter Try.func33, Try.ntmps33
        go_wp2_with fail
        go_ret2
        exact ⟨A, c, rfl, H.out, Below.refl _ _⟩
      · have h3' : 0 ≤ f := by omega
        by_cases h4 : (l : Int) ≤ f
        · clear hb h1 h2 h3
          go_enter Try.func33, Try.ntmps33
          go_wp2_with fail
          go_ret2
          exact ⟨A, c, rfl, H.out, Below.refl _ _⟩
        · have h4' : f < (l : Int) := by omega
          obtain rfl : t = f := by omega
          have u1 : (t == t) = true := by simp
          clear hb h1 h2 h3 h4
          go_enter Try.func33, Try.ntmps33
          go_wp2_with fail
          go_ret2
          exact ⟨A, c, rfl, H.out, Below.refl _ _⟩

set_option maxRecDepth 100000 in
set_option maxHeartbeats 1000000 in
theorem ref05_Join_yes (A : Option Addr) (l c : Nat) (R : Nat → List Nat) (t f : Nat) (w : World) (h : RowsAt B w A l R) (ht : t < l) (hf : f < l) (hne : t ≠ f) (hlt : (R t).length ≤ 1048576) (hlf : (R f).length ≤ 1048576) :
    Calls Try.prog 33 #[.slice A l c, .int .i64 t, .int .i64 f] w (GivesRowsB B w l (PC.updR (PC.updR R t (R t ++ R f)) f []) true) := by
  have hinfo : (Try.prog.info? 3).map (fun i => (i.zero, i.size, i.bytes)) = some (some (.int .i64 0), 1, 8) := by kernel_rfl
  obtain ⟨i0, hi0, hz0, hz1, hz2⟩ := info_parts hinfo
  have HI := Lib.hid hi0
  have HZ0 := Lib.hid hz0
  have HZ1 := Lib.hid hz1
  have HZ2 := Lib.hid hz2
  have H := Lib.hid h
  have hl := h.1
  obtain ⟨-, b, off, rfl, hb, hc⟩ := h
  obtain ⟨v1, x1, A1, n1, c1, rfl, hi1, -⟩ := hc t ht
  obtain ⟨v2, x2, A2, n2, c2, rfl, hi2, -⟩ := hc f hf
  have hbb : b < w.heap.size := (hb (by omega)).1
  have hBw : B ≤ w.heap.size := by have := hb (by omega); omega
  obtain ⟨r1, hr1⟩ : ∃ r, R t = r := ⟨_, rfl⟩
  obtain ⟨r2, hr2⟩ : ∃ r, R f = r := ⟨_, rfl⟩
  rw [hr1] at hi1 hlt ⊢
  rw [hr2] at hi2 hlf ⊢
  have hn1 : n1 ≤ 1048576 := by have := hi1.1.1; rw [ints_len] at this; omega
  have hn2 : n1 + n2 ≤ 2097152 := by have := hi1.1.1; have := hi2.1.1; rw [ints_len] at *; omega
  have HN1 := Lib.hid hn1
  have HN2 := Lib.hid hn2
  have HS1 := Lib.hid (fun W (hW : Below w.heap.size w W) => src_ints (hi1.1.keep hW))
  have HS2 := Lib.hid (fun W (hW : Below w.heap.size w W) => src_ints (hi2.1.keep hW))
  have P1 := Lib.hid (fun (W : World) (v : Value) (h : RowsAt B W (some ⟨b, off, none⟩) l R) (hv : SliceAt B W v (ints (r1 ++ r2))) => ref05_Put (some ⟨b, off, none⟩) l c R t v (r1 ++ r2) W h ht hv)
  have P2 := Lib.hid (fun (W : World) (A : Option Addr) (c : Nat) (h : RowsAt B W A l (PC.updR R t (r1 ++ r2))) => ref05_Put A l c (PC.updR R t (r1 ++ r2)) f (.slice none 0 0) [] W h hf ⟨none, 0, 0, rfl, IntsFrom.nil, by omega, by omega⟩)
  have HM : Hid ((ints r1).map (Value.int .i64) ++ (ints r2).map (Value.int .i64) = (ints (r1 ++ r2)).map (Value.int .i64)) := Lib.hid (by simp [ints])
  have g0 : (0 : Int) ≤ (t : Int) := by omega
  have g1 : (t : Int) < (l : Int) := by omega
  have g2 : (0 : Int) ≤ (f : Int) := by omega
  have g3 : (f : Int) < (l : Int) := by omega
  have e1 : ((t : Int) == (f : Int)) = false := by simp; omega
  have e2 : (t == f) = false := by simpa using hne
  have KS : ∀ w', Below w.heap.size w w' → (Below w.heap.size w w' ∧ w'.cell? ⟨b, off + t, none⟩ = some (.slice A1 n1 c1) ∧ w'.cell? ⟨b, off + f, none⟩ = some (.slice A2 n2 c2)) := fun w' hb => ⟨hb, (hb.cell (p := ⟨b, off + t, none⟩) hbb).trans x1, (hb.cell (p := ⟨b, off + f, none⟩) hbb).trans x2⟩
  have HKS := Lib.hid KS
  clear hinfo hi0 hz0 hz1 hz2 hb hc hr1 hr2 hi1 hi2 KS x1 x2 hn1 hn2
  go_enter Try.func33, Try.ntmps33
  go_wp2_with fail
  go_region_held3 (fun w' => Below w.heap.size w w' ∧ w'.cell? ⟨b, off + t, none⟩ = some (.slice A1 n1 c1) ∧ w'.cell? ⟨b, off + f, none⟩ = some (.slice A2 n2 c2)) (exact HKS.out _ (by repeat (first | exact Below.refl _ _ | assumption | refine bel_drew ?_ | refine bel_drewN ?_ _ | refine bel_alloc ?_ _ | refine bel_set ?_ (by first | (dsimp only; omega) | (simp; done) | (simp; omega)) _ | refine bel_trans ?_ (by assumption)))) (first
    | (refine step_append_src _ rfl (.tmp 34) (.tmp 38) 27 rfl w.heap.size 3 i0 (.int .i64 0) 8 Try.underlying27 HI.out HZ0.out HZ1.out HZ2.out rfl _ 0 [] rfl (own_empty w 3).drew A1 n1 c1 _ rfl (HS1.out _ (bel_alloc (Below.refl _ _) _).drew) (map_one _) (le_max (Nat.le_trans (Nat.le_of_eq (Nat.zero_add n1)) HN1.out)) (le_bytes (Nat.le_trans (Nat.le_of_eq (Nat.zero_add n1)) HN1.out)) (bel_alloc (Below.refl _ _) _).size ?_; intro v1 w1 hown1 hgrow1 _; have hB1 := (bel_alloc (Below.refl w.heap.size w) (.cells #[] 3)).drew.grown hgrow1 (bel_alloc (Below.refl _ _) _).size (fun g' h' => ((own_empty w 3).lt g' h').1); rw [Nat.zero_add, List.nil_append] at hown1; replace hown1 := Lib.hid hown1; clear hgrow1)
    | (refine step_append_src _ rfl (.tmp 39) (.tmp 43) 27 rfl w.heap.size 3 i0 (.int .i64 0) 8 Try.underlying27 HI.out HZ0.out HZ1.out HZ2.out rfl v1 n1 _ rfl hown1.out A2 n2 c2 _ rfl (HS2.out _ hB1) (map_one _) (le_max2 HN2.out) (le_bytes2 HN2.out) hB1.size ?_; intro v2 w2 hown2 hgrow2 _; have hB2 := hB1.grown hgrow2 hB1.size (fun g' h' => (hown1.out.lt g' h').1); replace hown2 := Lib.hid hown2; clear hgrow2)
    | (have _h := hr3.out; clear _h; go_simp; go_at_call 105; (with_reducible refine (P2.out w3 A3 c3 hr3.out).mono ?_); rintro e w4 ⟨A4, c4, rfl, hr4, hb4⟩; have hB4 := bel_trans hB3 hb4; replace hr4 := Lib.hid hr4; clear hb4)
    | (go_simp; go_at_call 105; have hs2 : SliceAt B w2 v2 (ints (r1 ++ r2)) := (slice_of_own (HM.out ▸ hown2.out)).mono hBw; (with_reducible refine (P1.out w2 v2 (H.out.keep hB2) hs2).mono ?_); rintro e w3 ⟨A3, c3, rfl, hr3, hb3⟩; have hB3 := bel_trans hB2 hb3; replace hr3 := Lib.hid hr3; clear hs2 hb3))
  go_wp2_with fail
  go_ret2
  exact ⟨A4, c4, rfl, hr4.out, hB4⟩

theorem ref05_Join {A : Option Addr} {l : Nat} {R : Nat → List Nat} {w : World} (c : Nat) (t f : Int) (h : RowsAt B w A l R) (hlen : ∀ i, i < l → (R i).length ≤ 1048576) :
    Calls Try.prog 33 #[.slice A l c, .int .i64 t, .int .i64 f] w (GivesRowsB B w l (PC.joinR l R t f) (PC.joinB l t f)) := by
  by_cases hb : PC.joinB l t f = true
  · have eR : PC.joinR l R t f = PC.updR (PC.updR R t.toNat (R t.toNat ++ R f.toNat)) f.toNat [] := by unfold PC.joinR; rw [if_pos hb]
    rw [eR, hb]
    unfold PC.joinB at hb
    simp only [decide_eq_true_eq] at hb
    obtain ⟨h1, h2, h3, h4, h5⟩ := hb
    obtain ⟨t, rfl⟩ : ∃ x : Nat, t = x := ⟨t.toNat, by omega⟩
    obtain ⟨f, rfl⟩ : ∃ x : Nat, f = x := ⟨f.toNat, by omega⟩
    simp only [Int.toNat_natCast]
    exact ref05_Join_yes A l c R t f w h (by omega) (by omega) (by omega) (hlen t (by omega)) (hlen f (by omega))
  · have hb' : PC.joinB l t f = false := by simpa using hb
    have eR : PC.joinR l R t f = R := by unfold PC.joinR; rw [if_neg hb]
    rw [eR, hb']
    exact ref05_Join_no A l c R t f w h hb'
end Go.Proofs.Ytdhcmnbajkpjiaa
