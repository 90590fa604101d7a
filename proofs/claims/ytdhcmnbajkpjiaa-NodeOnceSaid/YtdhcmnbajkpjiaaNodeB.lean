/-
  Slots: the walks of pick, Open, Close, Right, Gen, Len, New.
-/
import Derived.Test.YtdhcmnbajkpjiaaNodeA
namespace Go.Proofs.Ytdhcmnbajkpjiaa
open Go.RowKit
open Go.Maps
set_option linter.unusedVariables false
set_option linter.unusedSimpArgs false
attribute [local go_sem] drewN_alloc drewN_setCell

structure SlotsAt (B : Nat) (w : World) (Sb Gb Mb n : Nat) (v : Value) (g : List Int) (O cl : List Nat) (fr : Nat) : Prop where
  row : RowAt w Sb 166 [.slice (some ⟨Gb, 0, none⟩) n n, .map (some Mb), v, .int .i64 (fr : Int)]
  gens : RowAt w Gb 3 (g.map (Value.int .i64))
  glen : g.length = n
  set : SetAt w Mb O
  own : OwnI B w v (ints cl)
  ne1 : Sb ≠ Gb
  ne2 : Sb ≠ Mb
  ne3 : Gb ≠ Mb
  lt1 : Sb < B
  lt2 : Gb < B
  lt3 : Mb < B
structure SlInv (n : Nat) (O cl : List Nat) (fr : Nat) : Prop where
  o1 : O.Nodup
  c1 : cl.Nodup
  o2 : ∀ x ∈ O, x < fr
  c2 : ∀ x ∈ cl, x < fr ∧ x ∉ O
  f1 : fr ≤ n
  n1 : n ≤ 1048576
theorem nodup_lt : ∀ (n : Nat) (d : List Nat), d.Nodup → (∀ x ∈ d, x < n) → d.length ≤ n
  | 0, d, _, h => by
    cases d with
    | nil => simp
    | cons a t => exact absurd (h a (by simp)) (by omega)
  | n + 1, d, hd, h => by
    by_cases hm : n ∈ d
    · have h1 := nodup_lt n (d.erase n) (hd.erase n) (fun x hx => by
        have := (hd.mem_erase_iff).1 hx
        have := h x this.2
        omega)
      rw [List.length_erase_of_mem hm] at h1
      omega
    · have := nodup_lt n d hd (fun x hx => by
        have h1 := h x hx
        have h2 : x ≠ n := fun e => hm (e ▸ hx)
        omega)
      omega
theorem SlInv.cl_len {n : Nat} {O cl : List Nat} {fr : Nat} (h : SlInv n O cl fr) : cl.length ≤ n := Nat.le_trans (nodup_lt fr cl h.c1 (fun x hx => (h.c2 x hx).1)) h.f1
theorem SlInv.o_len {n : Nat} {O cl : List Nat} {fr : Nat} (h : SlInv n O cl fr) : O.length ≤ n := Nat.le_trans (nodup_lt fr O h.o1 h.o2) h.f1
theorem SlotsAt.of_blocks {B : Nat} {w w' : World} {Sb Gb Mb n : Nat} {v : Value} {g : List Int} {O cl : List Nat} {fr : Nat} (h : SlotsAt B w Sb Gb Mb n v g O cl fr)
    (e : ∀ k, k < w.heap.size → (k = Sb ∨ k = Gb ∨ k = Mb ∨ v.ownBlock = some k) → w'.heap[k]? = w.heap[k]?) : SlotsAt B w' Sb Gb Mb n v g O cl fr :=
  ⟨h.row.of_block (e _ h.row.lt (.inl rfl)), h.gens.of_block (e _ h.gens.lt (.inr (.inl rfl))), h.glen, h.set.of_block (e _ h.set.lt (.inr (.inr (.inl rfl)))), h.own.of_block (fun k hk => e k (World.ownsRow.lt h.own k hk).2 (.inr (.inr (.inr hk)))), h.ne1, h.ne2, h.ne3, h.lt1, h.lt2, h.lt3⟩

variable {B : Nat} {w : World} {Sb Gb Mb n : Nat} {v : Value} {g : List Int} {O cl : List Nat} {fr : Nat}
theorem SlotsAt.c0 (h : SlotsAt B w Sb Gb Mb n v g O cl fr) : w.cell? ⟨Sb, 0, none⟩ = some (.slice (some ⟨Gb, 0, none⟩) n n) := by rw [h.row.cell]; rfl
theorem SlotsAt.c1 (h : SlotsAt B w Sb Gb Mb n v g O cl fr) : w.cell? ⟨Sb, 1, none⟩ = some (.map (some Mb)) := by rw [h.row.cell]; rfl
theorem SlotsAt.c2 (h : SlotsAt B w Sb Gb Mb n v g O cl fr) : w.cell? ⟨Sb, 2, none⟩ = some v := by rw [h.row.cell]; rfl
theorem SlotsAt.c3 (h : SlotsAt B w Sb Gb Mb n v g O cl fr) : w.cell? ⟨Sb, 3, none⟩ = some (.int .i64 (fr : Int)) := by rw [h.row.cell]; rfl
theorem SlotsAt.gen (h : SlotsAt B w Sb Gb Mb n v g O cl fr) {i : Nat} (hi : i < n) : w.cell? ⟨Gb, i, none⟩ = some (.int .i64 (g.getD i 0)) := by
  have := h.glen
  rw [h.gens.cell]
  simp [List.getD, show i < g.length by omega]

def SPick (B : Nat) (Sb Gb Mb n : Nat) (v : Value) (g : List Int) (O : List Nat) (p : Nat) (ok : Bool) (cl' : List Nat) (fr' : Nat) (w : World) (e : Ending) (w' : World) : Prop :=
  e = .returned (.tuple #[.int .i64 (p : Int), .bool ok]) ∧ Chg (fun k => k = Sb) w w' ∧ ∃ v', SlotsAt B w' Sb Gb Mb n v' g O cl' fr' ∧ v'.ownBlock = v.ownBlock
set_option maxHeartbeats 2000000 in
theorem pick_closed (k : Nat) (h : SlotsAt B w Sb Gb Mb n v g O cl fr) (hk : cl.length = k + 1) (hb : k ≤ 1048576) :
    Calls Try.prog 152 #[.pointer (some ⟨Sb, 0, none⟩)] w (SPick B Sb Gb Mb n v g O (cl.getD k 0) true (cl.take k) fr w) := by
  obtain ⟨A, c, rfl, hi, hc, hcb⟩ := h.own.ints
  rw [ints_len, hk] at hi hc
  obtain ⟨b, off, e, hbl, hcs⟩ := hi.2.2 (by omega)
  have x0 := hcs k (by omega)
  have ex : (ints cl).getD k 0 = ((cl.getD k 0 : Nat) : Int) := by simp [ints, List.getD, show k < cl.length by omega]
  rw [ex] at x0
  have hs0 : off = 0 ∧ b ≥ B := by
    rcases h.own.2 with ⟨e1, _⟩ | ⟨g1, cap, cur, e1, hb1, _⟩
    · rw [e] at e1; cases e1
    · rw [e] at e1; cases e1; exact ⟨rfl, hb1⟩
  subst e
  obtain ⟨rfl, hbB⟩ := hs0
  rw [Nat.zero_add] at x0
  have c2 := h.c2
  rw [ints_len, hk] at c2
  have f2 := h.row.frozen 2
  have hcut : OwnI B w (.slice (some ⟨b, 0, none⟩) k c) (ints (cl.take k)) := by
    have := OwnI.cut (k := k) h.own (by rw [ints_len]; omega) (by rw [ints_len]; omega)
    have e2 : (ints cl).take k = ints (cl.take k) := by simp [ints]
    rwa [e2] at this
  have HF : Hid (SPick B Sb Gb Mb n (.slice (some ⟨b, 0, none⟩) (k + 1) c) g O (cl.getD k 0) true (cl.take k) fr w (.returned (.tuple #[.int .i64 ((cl.getD k 0 : Nat) : Int), .bool true])) (w.setCell ⟨Sb, 2, none⟩ (.slice (some ⟨b, 0, none⟩) k c))) := Lib.hid ⟨rfl, (Chg.refl (fun k => k = Sb) w).set (by exact rfl) _, .slice (some ⟨b, 0, none⟩) k c, by
    have hne : ∀ j, j ≠ Sb → (w.setCell ⟨Sb, 2, none⟩ (.slice (some ⟨b, 0, none⟩) k c)).heap[j]? = w.heap[j]? := fun j hj => Below.heap_setCell _ _ _ _ hj
    have hr := h.row.set_ 2 (.slice (some ⟨b, 0, none⟩) k c)
    exact ⟨hr, h.gens.of_block (hne _ h.ne1.symm), h.glen, h.set.of_block (hne _ h.ne2.symm), hcut.of_block (fun j hj => hne j (by have := (World.ownsRow.lt hcut j hj).1; have := h.lt1; omega)), h.ne1, h.ne2, h.ne3, h.lt1, h.lt2, h.lt3⟩, by simp [Value.ownBlock]⟩
  have e3 : (ints cl).length = k + 1 := by rw [ints_len, hk]
  rw [e3] at h ⊢
  generalize cl.getD k 0 = x at *
  have k1 : ((k + 1 : Nat) : Int) = (k : Int) + 1 := by omega
  have k0 : (0 : Int) < (k : Int) + 1 := by omega
  have g0 : decide ((0 : Int) < (k : Int) + 1) = true := decide_eq_true k0
  have wk : IntKind.i64.wrap ((k : Int) + 1 - 1) = (k : Int) := by rw [IntKind.wrap_i64]; omega
  have wk2 : IntKind.i64.wrap (k : Int) = (k : Int) := by rw [IntKind.wrap_i64]; omega
  have j0 : (0 : Int) ≤ (k : Int) := by omega
  have j1 : (k : Int) < (k : Int) + 1 := by omega
  have j2 : (k : Int) ≤ (c : Int) := by omega
  have j3 : k ≤ c := by omega
  clear h hi hcs hcut hk ex e3
  go_enter Try.func152, Try.ntmps152
  go_wp2_with fail
  exact bodyPost_ret (v := .tuple #[.int .i64 (x : Int), .bool true]) (by simp [results, Try.results152, go_sem]) rfl HF.out

/-- A store into the slots' own cells. -/
theorem SlotsAt.set3 (h : SlotsAt B w Sb Gb Mb n v g O cl fr) (x : Nat) : SlotsAt B (w.setCell ⟨Sb, 3, none⟩ (.int .i64 (x : Int))) Sb Gb Mb n v g O cl x := by
  have hne : ∀ j, j ≠ Sb → (w.setCell ⟨Sb, 3, none⟩ (.int .i64 (x : Int))).heap[j]? = w.heap[j]? := fun j hj => Below.heap_setCell _ _ _ _ hj
  have hr := h.row.set_ 3 (.int .i64 (x : Int))
  exact ⟨hr, h.gens.of_block (hne _ h.ne1.symm), h.glen, h.set.of_block (hne _ h.ne2.symm), h.own.of_block (fun j hj => hne j (by have := (World.ownsRow.lt h.own j hj).1; have := h.lt1; omega)), h.ne1, h.ne2, h.ne3, h.lt1, h.lt2, h.lt3⟩
set_option maxHeartbeats 2000000 in
theorem pick_fresh (h : SlotsAt B w Sb Gb Mb n v g O cl fr) (hk : cl = []) (hf : fr < n) (hn : n ≤ 1048576) :
    Calls Try.prog 152 #[.pointer (some ⟨Sb, 0, none⟩)] w (SPick B Sb Gb Mb n v g O fr true cl (fr + 1) w) := by
  obtain ⟨A, c, e, hi, hc, hcb⟩ := h.own.ints
  have e0 : (ints cl).length = 0 := by rw [hk]; rfl
  rw [e0] at e
  have c0 := h.c0
  have c2 := h.c2
  have c3 := h.c3
  rw [e] at c2
  have f3 := h.row.frozen 3
  have ef : ((fr + 1 : Nat) : Int) = (fr : Int) + 1 := by omega
  have HF : Hid (∀ m, SPick B Sb Gb Mb n v g O fr true cl (fr + 1) w (.returned (.tuple #[.int .i64 (fr : Int), .bool true])) ((w.setCell ⟨Sb, 3, none⟩ (.int .i64 ((fr : Int) + 1))).drewN m)) := Lib.hid (fun m => ⟨rfl, ((Chg.refl (fun k => k = Sb) w).set (by exact rfl) _).drewN m, v, by rw [← ef]; exact (h.set3 (fr + 1)).of_blocks (fun _ _ _ => rfl), rfl⟩)
  have g1 : decide ((fr : Int) < (n : Int)) = true := decide_eq_true (by omega)
  have g2 : (fr : Int) < (n : Int) := by omega
  have wf : IntKind.i64.wrap ((fr : Int) + 1) = (fr : Int) + 1 := by rw [IntKind.wrap_i64]; omega
  have wf2 : IntKind.i64.wrap ((fr : Int) + 1 - 1) = (fr : Int) := by rw [IntKind.wrap_i64]; omega
  have wf3 : IntKind.i64.wrap (fr : Int) = (fr : Int) := by rw [IntKind.wrap_i64]; omega
  clear h hi hk e e0
  go_enter Try.func152, Try.ntmps152
  go_wp2_with fail
  go_quiet (fail)
  go_wp2_with fail
  exact bodyPost_ret (v := .tuple #[.int .i64 (fr : Int), .bool true]) (by simp [results, Try.results152, go_sem]) rfl (HF.out nq)
set_option maxHeartbeats 2000000 in
theorem pick_none (h : SlotsAt B w Sb Gb Mb n v g O cl fr) (hk : cl = []) (hf : ¬ fr < n) :
    Calls Try.prog 152 #[.pointer (some ⟨Sb, 0, none⟩)] w fun e w' => e = .returned (.tuple #[.int .i64 0, .bool false]) ∧ Below w.heap.size w w' := by
  obtain ⟨A, c, e, hi, hc, hcb⟩ := h.own.ints
  have e0 : (ints cl).length = 0 := by rw [hk]; rfl
  rw [e0] at e
  have c0 := h.c0
  have c2 := h.c2
  have c3 := h.c3
  rw [e] at c2
  have g1 : decide ((fr : Int) < (n : Int)) = false := decide_eq_false (by omega)
  clear h hi hk e e0
  go_enter Try.func152, Try.ntmps152
  go_wp2_with fail
  go_quiet (fail)
  go_wp2_with fail
  go_ret2
  exact ⟨rfl, bel_drewN (Below.refl _ _) nq⟩

/-- Which place is opened, and what is left. -/
def pickP (cl : List Nat) (fr n : Nat) : Option (Nat × List Nat × Nat) :=
  if cl.length ≠ 0 then some (cl.getD (cl.length - 1) 0, cl.take (cl.length - 1), fr) else if fr < n then some (fr, cl, fr + 1) else none
theorem slots_pick {p : Nat} {cl' : List Nat} {fr' : Nat} (h : SlotsAt B w Sb Gb Mb n v g O cl fr) (hi : SlInv n O cl fr) (hp : pickP cl fr n = some (p, cl', fr')) :
    Calls Try.prog 152 #[.pointer (some ⟨Sb, 0, none⟩)] w (SPick B Sb Gb Mb n v g O p true cl' fr' w) := by
  unfold pickP at hp
  by_cases h0 : cl.length ≠ 0
  · rw [if_pos h0] at hp
    cases hp
    have := hi.cl_len
    have := hi.n1
    exact pick_closed (cl.length - 1) h (by omega) (by omega)
  · rw [if_neg h0] at hp
    by_cases hf : fr < n
    · rw [if_pos hf] at hp
      cases hp
      exact pick_fresh h (List.eq_nil_of_length_eq_zero (by omega)) hf hi.n1
    · rw [if_neg hf] at hp; cases hp
theorem SlInv.pick {p : Nat} {cl' : List Nat} {fr' : Nat} (hi : SlInv n O cl fr) (hp : pickP cl fr n = some (p, cl', fr')) : SlInv n (p :: O) cl' fr' ∧ p ∉ O ∧ p < n ∧ p < fr' := by
  unfold pickP at hp
  by_cases h0 : cl.length ≠ 0
  · rw [if_pos h0] at hp
    cases hp
    have hl : cl.length - 1 < cl.length := by omega
    have e : cl.getD (cl.length - 1) 0 = cl[cl.length - 1] := by simp [List.getD, hl]
    have hm : cl.getD (cl.length - 1) 0 ∈ cl := by rw [e]; exact List.getElem_mem _
    have h2 := hi.c2 _ hm
    have hf1 := hi.f1
    have hnot : cl.getD (cl.length - 1) 0 ∉ cl.take (cl.length - 1) := by
      rw [e]
      intro h
      rw [List.mem_take_iff_getElem] at h
      obtain ⟨i, hi', hii⟩ := h
      have := List.nodup_iff_pairwise_ne.1 hi.c1
      rw [List.pairwise_iff_getElem] at this
      exact this i (cl.length - 1) (by omega) hl (by omega) hii
    refine ⟨⟨List.nodup_cons.2 ⟨h2.2, hi.o1⟩, hi.c1.sublist (List.take_sublist _ _), fun x hx => ?_, fun x hx => ⟨(hi.c2 x (List.mem_of_mem_take hx)).1, fun hx2 => ?_⟩, hi.f1, hi.n1⟩, h2.2, by omega, h2.1⟩
    · rcases List.mem_cons.1 hx with h | h
      · rw [h]; exact h2.1
      · exact hi.o2 x h
    · rcases List.mem_cons.1 hx2 with h | h
      · rw [h] at hx; exact hnot hx
      · exact (hi.c2 x (List.mem_of_mem_take hx)).2 h
  · rw [if_neg h0] at hp
    by_cases hf : fr < n
    · rw [if_pos hf] at hp
      cases hp
      have hno : fr ∉ O := fun h => by have := hi.o2 _ h; omega
      refine ⟨⟨List.nodup_cons.2 ⟨hno, hi.o1⟩, hi.c1, fun x hx => ?_, fun x hx => ?_, by omega, hi.n1⟩, hno, hf, by omega⟩
      · rcases List.mem_cons.1 hx with h | h
        · omega
        · have := hi.o2 x h; omega
      · have hh := hi.c2 x hx
        refine ⟨by omega, fun h2 => ?_⟩
        rcases List.mem_cons.1 h2 with h | h
        · omega
        · exact hh.2 h
    · rw [if_neg hf] at hp; cases hp
def SOpen (B : Nat) (Sb Gb Mb n : Nat) (v : Value) (g : List Int) (O : List Nat) (p : Nat) (cl' : List Nat) (fr' : Nat) (w : World) (e : Ending) (w' : World) : Prop :=
  e = .returned (.tuple #[.int .i64 (p : Int), .int .i64 (g.getD p 0), .bool true]) ∧ Chg (fun k => k = Sb ∨ k = Mb) w w' ∧ ∃ v', SlotsAt B w' Sb Gb Mb n v' g (p :: O) cl' fr' ∧ v'.ownBlock = v.ownBlock
set_option maxRecDepth 100000 in
set_option maxHeartbeats 4000000 in
theorem slots_Open {p : Nat} {cl' : List Nat} {fr' : Nat} (h : SlotsAt B w Sb Gb Mb n v g O cl fr) (hi : SlInv n O cl fr) (hp : pickP cl fr n = some (p, cl', fr')) :
    Calls Try.prog 127 #[.pointer (some ⟨Sb, 0, none⟩)] w (SOpen B Sb Gb Mb n v g O p cl' fr' w) := by
  have K := Lib.hid (slots_pick h hi hp)
  obtain ⟨hi2, hno, hpn, hpf⟩ := hi.pick hp
  have hol := hi.o_len
  have hn1 := hi.n1
  have HB1 := Lib.hid (show p ≤ 1048576 by omega)
  have hlt := h.row.lt
  clear h hi hp hi2
  go_enter Try.func127, Try.ntmps127
  go_wp2_with fail
  refine K.out.mono ?_
  rintro e w1 ⟨rfl, hc1, v', h1, hv⟩
  have c1 := h1.c1
  obtain ⟨w2, hrun, hset, hgr⟩ := h1.set.add p ⟨by omega, by omega⟩ hno (by unfold maxLen; omega)
  have h2 : SlotsAt B w2 Sb Gb Mb n v' g (p :: O) cl' fr' :=
    ⟨h1.row.of_block (hgr.block _ h1.row.lt (fun e => by have := h1.ne2; cases e; exact this rfl)), h1.gens.of_block (hgr.block _ h1.gens.lt (fun e => by have := h1.ne3; cases e; exact this rfl)), h1.glen, hset,
      h1.own.of_block (fun k hk => hgr.block _ (World.ownsRow.lt h1.own k hk).2 (fun e => by have := (World.ownsRow.lt h1.own k hk).1; have := h1.lt3; cases e; omega)), h1.ne1, h1.ne2, h1.ne3, h1.lt1, h1.lt2, h1.lt3⟩
  have d0 := h2.c0
  have dg := h2.gen hpn
  have HF : Hid (∀ m, SOpen B Sb Gb Mb n v g O p cl' fr' w (.returned (.tuple #[.int .i64 (p : Int), .int .i64 (g.getD p 0), .bool true])) (w2.drewN m)) := Lib.hid (fun m => ⟨rfl, ((hc1.mono (fun k _ e => .inl e)).trans (Chg.of_grown hgr (fun k e => by cases e; exact .inr rfl))).drewN m, v', h2.of_blocks (fun _ _ _ => rfl), hv⟩)
  have j0 : (0 : Int) ≤ (p : Int) := by omega
  have j1 : (p : Int) < (n : Int) := by omega
  generalize g.getD p 0 = gp at *
  clear hset hgr h1 h2 hc1
  go_wp2_with fail
  go_quiet (fail)
  go_wp2_with fail
  exact bodyPost_ret (v := .tuple #[.int .i64 (p : Int), .int .i64 gp, .bool true]) (by simp [results, Try.results127, go_sem]) rfl (HF.out nq)
set_option maxHeartbeats 2000000 in
theorem slots_Open_no (h : SlotsAt B w Sb Gb Mb n v g O cl fr) (hp : pickP cl fr n = none) :
    Calls Try.prog 127 #[.pointer (some ⟨Sb, 0, none⟩)] w fun e w' => e = .returned (.tuple #[.int .i64 0, .int .i64 0, .bool false]) ∧ Below w.heap.size w w' := by
  unfold pickP at hp
  have h0 : ¬ cl.length ≠ 0 := fun h0 => by rw [if_pos h0] at hp; cases hp
  rw [if_neg h0] at hp
  have hf : ¬ fr < n := fun hf => by rw [if_pos hf] at hp; cases hp
  have K := Lib.hid (pick_none h (List.eq_nil_of_length_eq_zero (by omega)) hf)
  clear h hp
  go_enter Try.func127, Try.ntmps127
  go_wp2_with fail
  refine K.out.mono ?_
  rintro e w1 ⟨rfl, h1⟩
  go_wp2_with fail
  exact bodyPost_ret (v := .tuple #[.int .i64 0, .int .i64 0, .bool false]) (by simp [results, Try.results127, go_sem]) rfl ⟨rfl, h1⟩
end Go.Proofs.Ytdhcmnbajkpjiaa
