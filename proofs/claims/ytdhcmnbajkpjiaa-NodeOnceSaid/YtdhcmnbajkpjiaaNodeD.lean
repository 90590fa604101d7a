/-
  Slots: the walks of Close and New.
-/
import Derived.Test.YtdhcmnbajkpjiaaNodeC
import Derived.Deep.Cut
import Derived.Outline
namespace Go.Proofs.Ytdhcmnbajkpjiaa
open Go.RowKit
open Go.Maps
set_option linter.unusedVariables false
set_option linter.unusedSimpArgs false
attribute [local go_sem] drewN_alloc drewN_setCell
variable {B : Nat} {w : World} {Sb Gb Mb n : Nat} {v : Value} {g : List Int} {O cl : List Nat} {fr : Nat}

theorem SlotsAt.below {w' : World} (h : SlotsAt B w Sb Gb Mb n v g O cl fr) (hb : Below w.heap.size w w') : SlotsAt B w' Sb Gb Mb n v g O cl fr := h.of_blocks (fun k hk _ => hb.block k hk)
theorem slots_Close_no (x y : Int) (h : SlotsAt B w Sb Gb Mb n v g O cl fr) (hi : SlInv n O cl fr) (hx : BdI x) (hr : rightB O g x y = false) :
    Calls Try.prog 112 #[.pointer (some ⟨Sb, 0, none⟩), .int .i64 x, .int .i64 y] w fun e w' => e = .returned (.bool false) ∧ Below w.heap.size w w' := by
  have K := slots_Right x y h hi hx
  rw [hr] at K
  replace K := Lib.hid K
  clear h hi hx hr
  go_enter Try.func112, Try.ntmps112
  go_wp2_with fail
  refine K.out.mono ?_
  rintro e w1 ⟨rfl, h1⟩
  go_wp2_with fail
  go_ret
  exact ⟨rfl, h1⟩
def SClose (B : Nat) (Sb Gb Mb n : Nat) (v : Value) (g : List Int) (O cl : List Nat) (fr p : Nat) (w : World) (e : Ending) (w' : World) : Prop :=
  e = .returned (.bool true) ∧ ∃ v', SlotsAt B w' Sb Gb Mb n v' (g.set p (IntKind.i64.wrap (g.getD p 0 + 1))) (O.erase p) (cl ++ [p]) fr ∧ Chg (fun k => k = Sb ∨ k = Gb ∨ k = Mb ∨ v.ownBlock = some k) w w' ∧ (v'.ownBlock = v.ownBlock ∨ ∃ k, v'.ownBlock = some k ∧ w.heap.size ≤ k)
theorem SlInv.close {p : Nat} (hi : SlInv n O cl fr) (hp : p ∈ O) : SlInv n (O.erase p) (cl ++ [p]) fr := by
  refine ⟨hi.o1.erase p, ?_, fun x hx => hi.o2 x (List.mem_of_mem_erase hx), fun x hx => ?_, hi.f1, hi.n1⟩
  · rw [List.nodup_append]
    exact ⟨hi.c1, by simp, fun a ha b hb => by simp at hb; rintro rfl; exact (hi.c2 a ha).2 (hb ▸ hp)⟩
  · rcases List.mem_append.1 hx with h | h
    · exact ⟨(hi.c2 x h).1, fun h2 => (hi.c2 x h).2 (List.mem_of_mem_erase h2)⟩
    · simp at h
      subst h
      exact ⟨hi.o2 _ hp, fun h2 => ((hi.o1.mem_erase_iff).1 h2).1 rfl⟩
theorem ints_snoc2 (d : List Nat) (i : Nat) : ints (d ++ [i]) = ints d ++ [(i : Int)] := by simp [ints]
theorem src_oneN {w : World} {g : Nat} {x : Int} (h : w.cell? ⟨g, 0, none⟩ = some (.int .i64 x)) : SrcS 1 w (some ⟨g, 0, none⟩) 1 (cellsI [x]) := src_oneI h
set_option maxRecDepth 100000 in
set_option maxHeartbeats 4000000 in
theorem slots_Close (p : Nat) (y : Int) (h : SlotsAt B w Sb Gb Mb n v g O cl fr) (hi : SlInv n O cl fr) (hr : rightB O g (p : Int) y = true) (hB : B ≤ w.heap.size) :
    Calls Try.prog 112 #[.pointer (some ⟨Sb, 0, none⟩), .int .i64 (p : Int), .int .i64 y] w (SClose B Sb Gb Mb n v g O cl fr p w) := by
  have hr2 := hr
  unfold rightB at hr2
  simp only [Bool.and_eq_true, decide_eq_true_eq] at hr2
  have hp : p ∈ O := in_ints.1 hr2.1
  have hpf := hi.o2 p hp
  have hf1 := hi.f1
  have hn1 := hi.n1
  have hpn : p < n := by omega
  have bp : BdI (p : Int) := ⟨by omega, by omega⟩
  have K := slots_Right (p : Int) y h hi bp
  rw [hr] at K
  replace K := Lib.hid K
  have H := Lib.hid h
  have HI := Lib.hid hi
  have HP := Lib.hid hp
  have j0 : (0 : Int) ≤ (p : Int) := by omega
  have j1 : (p : Int) < (n : Int) := by omega
  clear h hr hr2 hp
  go_enter Try.func112, Try.ntmps112
  go_wp2_with fail
  refine K.out.mono ?_
  rintro e w1 ⟨rfl, hb1⟩
  have h1 := H.out.below hb1
  have c1 := h1.c1
  obtain ⟨w2, hrun, hset, hgr⟩ := h1.set.del p bp HP.out HI.out.o1 0
  have blk : ∀ k, k < w1.heap.size → k ≠ Mb → w2.heap[k]? = w1.heap[k]? := fun k hk hne => hgr.block k hk (fun e => hne (by cases e; rfl))
  have r2 := h1.row.of_block (blk _ h1.row.lt h1.ne2)
  have s2 := h1.gens.of_block (blk _ h1.gens.lt h1.ne3)
  have o2 := h1.own.of_block (fun k hk => blk k (World.ownsRow.lt h1.own k hk).2 (by have := (World.ownsRow.lt h1.own k hk).1; have := h1.lt3; omega))
  have d0 : w2.cell? ⟨Sb, 0, none⟩ = some (.slice (some ⟨Gb, 0, none⟩) n n) := by rw [r2.cell]; rfl
  have dg : w2.cell? ⟨Gb, p, none⟩ = some (.int .i64 (g.getD p 0)) := by
    have := h1.glen
    rw [s2.cell]
    simp [List.getD, show p < g.length by omega]
  have fg := s2.frozen p
  obtain ⟨gp, hgp⟩ : ∃ gp, g.getD p 0 = gp := ⟨_, rfl⟩
  rw [hgp] at dg
  obtain ⟨x, hx⟩ : ∃ x, IntKind.i64.wrap (gp + 1) = x := ⟨_, rfl⟩
  obtain ⟨w3, hw3⟩ : ∃ w3, w2.setCell ⟨Gb, p, none⟩ (.int .i64 x) = w3 := ⟨_, rfl⟩
  have r3 : RowAt w3 Sb 166 [.slice (some ⟨Gb, 0, none⟩) n n, .map (some Mb), v, .int .i64 (fr : Int)] := by rw [← hw3]; exact r2.far h1.ne1 _
  have s3 : RowAt w3 Gb 3 ((g.set p x).map (Value.int .i64)) := by
    rw [← hw3, List.map_set]
    exact s2.set_ p _
  have e3 : ∀ k, k ≠ Gb → w3.heap[k]? = w2.heap[k]? := fun k hk => by rw [← hw3]; exact Below.heap_setCell _ _ _ _ hk
  have o3 : OwnI B w3 v (ints cl) := o2.of_block (fun k hk => e3 k (by have := (World.ownsRow.lt o2 k hk).1; have := h1.lt2; omega))
  have m3 : SetAt w3 Mb (O.erase p) := hset.of_block (e3 _ h1.ne3.symm)
  have z12 := hgr.size
  have z23 : w2.heap.size ≤ w3.heap.size := by rw [← hw3]; simp
  have z01 := hb1.size
  have C13 : Chg (fun k => k = Sb ∨ k = Gb ∨ k = Mb ∨ v.ownBlock = some k) w w3 := by
    rw [← hw3]
    exact ((Chg.of_below hb1).trans (Chg.of_grown hgr (fun k e => by cases e; exact .inr (.inr (.inl rfl))))).set (.inr (.inl rfl)) _
  have d2 : w3.cell? ⟨Sb, 2, none⟩ = some v := by rw [r3.cell]; rfl
  have HOA : Hid (OwnI B (w3.alloc (.cells #[.int .i64 (p : Int)] 3)) v (ints cl)) := Lib.hid (o3.of_block (fun k hk => Below.heap_alloc _ _ _ (World.ownsRow.lt o3 k hk).2))
  have HFZ := Lib.hid (r3.frozen 2)
  have HARM : Hid (∀ (v5 : Value) (w5 : World), OwnI B w5 v5 (ints cl ++ [(p : Int)]) → (w3.alloc (.cells #[.int .i64 (p : Int)] 3)).grownBy w5 v.ownBlock → (v5.ownBlock = v.ownBlock ∨ v5.ownBlock = some (w3.alloc (.cells #[.int .i64 (p : Int)] 3)).heap.size) →
      w5.cell? ⟨Sb, 2, none⟩ = some v ∧ w5.frozen? ⟨Sb, 2, none⟩ = false ∧ SClose B Sb Gb Mb n v g O cl fr p w (.returned (.bool true)) (w5.setCell ⟨Sb, 2, none⟩ v5)) := Lib.hid (fun v5 w5 ho5 hg5 hor5 => by
    have blk5 : ∀ k, k < w3.heap.size → v.ownBlock ≠ some k → w5.heap[k]? = w3.heap[k]? := fun k hk hne => (hg5.block k (by simp; omega) (fun e => hne e.symm)).trans (Below.heap_alloc _ _ _ hk)
    have hvS : v.ownBlock ≠ some Sb := fun e => by have := (World.ownsRow.lt o3 _ e).1; have := h1.lt1; omega
    have hvG : v.ownBlock ≠ some Gb := fun e => by have := (World.ownsRow.lt o3 _ e).1; have := h1.lt2; omega
    have hvM : v.ownBlock ≠ some Mb := fun e => by have := (World.ownsRow.lt o3 _ e).1; have := h1.lt3; omega
    have r5 := r3.of_block (blk5 _ r3.lt hvS)
    have s5 := s3.of_block (blk5 _ s3.lt hvG)
    have m5 := m3.of_block (blk5 _ m3.lt hvM)
    have z5 := hg5.size
    simp only [World.size_alloc] at z5
    have far : ∀ k, k ≠ Sb → (w5.setCell ⟨Sb, 2, none⟩ v5).heap[k]? = w5.heap[k]? := fun k hk => Below.heap_setCell _ _ _ _ hk
    refine ⟨by rw [r5.cell]; rfl, r5.frozen 2, rfl, v5, ?_, ?_, ?_⟩
    · rw [hgp, hx]
      refine ⟨r5.set_ 2 v5, s5.of_block (far _ h1.ne1.symm), by rw [List.length_set]; exact h1.glen, m5.of_block (far _ h1.ne2.symm), ?_, h1.ne1, h1.ne2, h1.ne3, h1.lt1, h1.lt2, h1.lt3⟩
      rw [ints_snoc2]
      exact ho5.of_block (fun k hk => far k (by have := (World.ownsRow.lt ho5 k hk).1; have := h1.lt1; omega))
    · refine (C13.trans ?_).set (.inl rfl) _
      exact (Chg.of_below (Below.refl _ _ |>.alloc (Nat.le_refl _) _)).trans (Chg.of_grown hg5 (fun k e => .inr (.inr (.inr e))))
    · rcases hor5 with h | h
      · exact .inl h
      · refine .inr ⟨_, h, ?_⟩
        simp only [World.size_alloc]; omega)
  have hle : (ints cl).length + 1 ≤ 1048576 + 1 := by rw [ints_len]; have := HI.out.cl_len; omega
  have hle2 : (ints cl).length + 1 ≤ 1048576 := by
    rw [ints_len]
    have h1' := (HI.out.close HP.out).cl_len
    rw [List.length_append] at h1'
    simp at h1'
    omega
  clear hset hgr h1 blk r2 s2 o2 r3 s3 e3 o3 m3 hgp C13
  have HW3 := Lib.hid hw3
  have f2w : w3.frozen? ⟨Sb, 2, none⟩ = false := HFZ.out
  clear hw3
  go_upto_region 5 with (fail)
  refine region_name ?_
  rintro W3 hW3
  obtain rfl : W3 = w3 := hW3.trans HW3.out
  clear hW3
  go_wp2_with (at_builtin; refine app_listG rfl (.tmp 30) (.tmp 32) rfl B v (ints cl) rfl HOA.out (some ⟨W3.heap.size, 0, none⟩) 1 1 [(p : Int)] rfl (src_oneN (by simp [go_sem])) hle2 (by simp; omega) ?_; intro v5 w5 ho5 hg5 hor5; obtain ⟨A5, c5, rfl, _, _, _⟩ := ho5.ints; obtain ⟨q2, qf2, HFIN⟩ := HARM.out _ w5 ho5 hg5 hor5; replace HFIN := Lib.hid HFIN; clear ho5 hg5 hor5)
  exact bodyPost_ret (v := .bool true) (by simp [results, Try.results112, go_sem]) rfl (by have hq := HFIN.out; rw [List.length_append] at hq; exact hq)

theorem made_ints (n : Nat) : madeCells #[Value.int .i64 0] n = ((List.replicate n (0 : Int)).map (Value.int .i64)).toArray := by
  apply Array.ext
  · simp [size_madeCells]
  · intro i h1 h2
    simp [madeCells, Nat.mod_one]
set_option maxHeartbeats 2000000 in
theorem slots_New (n : Nat) (w : World) (hn : n ≤ 1048576) :
    Calls Try.prog 108 #[.int .i64 (n : Int)] w fun e w' => e = .returned (.pointer (some ⟨w.heap.size + 2, 0, none⟩)) ∧ w'.heap.size = w.heap.size + 3 ∧ (∀ B', w.heap.size + 3 ≤ B' → SlotsAt B' w' (w.heap.size + 2) w.heap.size (w.heap.size + 1) n (.slice none 0 0) (List.replicate n 0) [] [] 0) ∧ Below w.heap.size w w' := by
  have hinfo : (Try.prog.info? 3).map (fun i => (i.zero, i.size, i.bytes)) = some (some (.int .i64 0), 1, 8) := by kernel_rfl
  have hmk := run_make_row' (P := Try.prog) 27 3 (.int .i64 0) 8 Try.underlying27 hinfo rfl .i64 .i64 n (by omega) (by omega)
  rw [made_ints] at hmk
  obtain ⟨Z, hZ⟩ : ∃ Z, ((List.replicate n (0 : Int)).map (Value.int .i64)).toArray = Z := ⟨_, rfl⟩
  rw [hZ] at hmk
  have HS : Hid (∀ B', w.heap.size + 3 ≤ B' → SlotsAt B' (((w.alloc (.cells Z 3)).alloc (.map #[] 0)).alloc (.cells #[.slice (some ⟨w.heap.size, 0, none⟩) n n, .map (some (w.heap.size + 1)), .slice none 0 0, .int .i64 0] 166)) (w.heap.size + 2) w.heap.size (w.heap.size + 1) n (.slice none 0 0) (List.replicate n 0) [] [] 0) := Lib.hid (fun B' hB' => by
    rw [← hZ]
    have e1 : (w.alloc (.cells ((List.replicate n (0 : Int)).map (Value.int .i64)).toArray 3)).heap.size = w.heap.size + 1 := by simp
    have e2 : ((w.alloc (.cells ((List.replicate n (0 : Int)).map (Value.int .i64)).toArray 3)).alloc (.map #[] 0)).heap.size = w.heap.size + 2 := by simp
    have r1 : RowAt (w.alloc (.cells ((List.replicate n (0 : Int)).map (Value.int .i64)).toArray 3)) w.heap.size 3 ((List.replicate n (0 : Int)).map (Value.int .i64)) := RowAt.new w 3 _
    have m1 := SetAt.made (w.alloc (.cells ((List.replicate n (0 : Int)).map (Value.int .i64)).toArray 3))
    rw [e1] at m1
    have r2 := RowAt.new ((w.alloc (.cells ((List.replicate n (0 : Int)).map (Value.int .i64)).toArray 3)).alloc (.map #[] 0)) 166 [.slice (some ⟨w.heap.size, 0, none⟩) n n, .map (some (w.heap.size + 1)), .slice none 0 0, .int .i64 0]
    rw [e2] at r2
    exact ⟨r2, (r1.alloc _).alloc _, by simp, m1.of_block (Below.heap_alloc _ _ _ m1.lt), OwnI.nil _ _, by omega, by omega, by omega, by omega, by omega, by omega⟩)
  have hmm := place_makeMap
  have g0 : ¬ (n : Int) < 0 := by omega
  have g1 : decide ((n : Int) < 0) = false := decide_eq_false g0
  have g2 : decide ((1048576 : Int) < (n : Int)) = false := decide_eq_false (by omega)
  have g3 : ¬ (1048576 : Int) < (n : Int) := by omega
  clear hinfo
  go_enter Try.func108, Try.ntmps108
  go_wp2_with fail
  exact bodyPost_ret (v := .pointer (some ⟨w.heap.size + 1 + 1, 0, none⟩)) (by simp [results, Try.results108, go_sem]) rfl ⟨rfl, by simp, fun B' hB' => HS.out B' hB', (by repeat (first | exact Below.refl _ _ | assumption | refine bel_drew ?_ | refine bel_drewN ?_ _ | refine bel_alloc ?_ _ | refine bel_set ?_ (by first | (dsimp only; omega) | (simp; done) | (simp; omega)) _ | refine bel_trans ?_ (by assumption)))⟩
end Go.Proofs.Ytdhcmnbajkpjiaa
