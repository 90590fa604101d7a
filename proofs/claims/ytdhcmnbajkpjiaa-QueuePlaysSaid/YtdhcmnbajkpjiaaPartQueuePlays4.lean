/- Part 4 of the proof of QueuePlays: lemmas, each with its conditions ahead of it. -/
import Derived.Test.YtdhcmnbajkpjiaaPartQueuePlays3
import Derived.Test.YtdhcmnbajkpjiaaPartQueuePlays2
import Derived.Deep.Cut
import Derived.Outline
import Derived.Test.YtdhcmnbajkpjiaaPartQueuePlays1
import Derived.Test.YtdhcmnbajkpjiaaProg
/-
  Queue: Add.
-/
namespace Go.Proofs.Ytdhcmnbajkpjiaa
open Go.RowKit
open Go.Maps
set_option linter.unusedVariables false
set_option linter.unusedSimpArgs false
attribute [local go_sem] drewN_alloc drewN_setCell

variable {B : Nat} {w w' : World} {b : Nat → Nat} {v v' : Value} {S : QSt} {k k' : Nat}
theorem QAt.own_ne (h : QAt B w b v S k) {j : Nat} (hj : v.ownBlock = some j) (i : Nat) (hi : i < 11) : b i ≠ j := by
  have h1 := (World.ownsRow.lt h.sl.own j hj).1
  have h2 := h.lt i hi
  omega
theorem QAt.step_slots (h : QAt B w b v S k) {g' : List Int} {O' cl' : List Nat} {fr' : Nat} (hsl : SlotsAt B w' (b 7) (b 8) (b 9) 256 v' g' O' cl' fr') (hc : Chg (fun j => j = b 7 ∨ j = b 8 ∨ j = b 9 ∨ v.ownBlock = some j) w w') :
    QAt B w' b v' ⟨S.ids, S.gens, g', O', cl', fr', S.R1, S.R2, S.f⟩ k := by
  have key : ∀ i, i < 11 → i ≠ 7 → i ≠ 8 → i ≠ 9 → w'.heap[b i]? = w.heap[b i]? := fun i hi h7 h8 h9 => hc.block _ (Nat.lt_of_lt_of_le (h.lt i hi) h.bw) (fun hh => by
    rcases hh with e | e | e | e
    · exact h.ne i 7 hi (by omega) h7 e
    · exact h.ne i 8 hi (by omega) h8 e
    · exact h.ne i 9 hi (by omega) h9 e
    · exact h.own_ne e i hi rfl)
  exact ⟨h.row.of_block (key 0 (by omega) (by omega) (by omega) (by omega)), h.c1.of_blocks (fun j hj => by
    rcases hj with rfl | rfl | rfl
    · exact key 1 (by omega) (by omega) (by omega) (by omega)
    · exact key 2 (by omega) (by omega) (by omega) (by omega)
    · exact key 3 (by omega) (by omega) (by omega) (by omega)), h.c2.of_blocks (fun j hj => by
    rcases hj with rfl | rfl | rfl
    · exact key 4 (by omega) (by omega) (by omega) (by omega)
    · exact key 5 (by omega) (by omega) (by omega) (by omega)
    · exact key 6 (by omega) (by omega) (by omega) (by omega)), hsl, h.mp.of_block (key 10 (by omega) (by omega) (by omega) (by omega)), h.inj, h.lt, Nat.le_trans h.bw hc.size⟩
theorem QAt.keep_sl (h : QAt B w b v S k) (e : ∀ i, i < 11 → 7 ≤ i → i ≤ 9 → w'.heap[b i]? = w.heap[b i]?) (e2 : ∀ j, v.ownBlock = some j → w'.heap[j]? = w.heap[j]?) : SlotsAt B w' (b 7) (b 8) (b 9) 256 v S.g S.O S.cl S.fr :=
  h.sl.of_blocks (fun j _ hj => by
    rcases hj with rfl | rfl | rfl | hj
    · exact e 7 (by omega) (by omega) (by omega)
    · exact e 8 (by omega) (by omega) (by omega)
    · exact e 9 (by omega) (by omega) (by omega)
    · exact e2 j hj)
theorem QAt.step_c1 (h : QAt B w b v S k) {R' : Nat → List Nat} (hc : ChainRows w' (b 1) (b 2) (b 3) 256 1 R') (off : Off (b 2) (b 3) w w') : QAt B w' b v ⟨S.ids, S.gens, S.g, S.O, S.cl, S.fr, R', S.R2, S.f⟩ k := by
  have key : ∀ i, i < 11 → i ≠ 2 → i ≠ 3 → w'.heap[b i]? = w.heap[b i]? := fun i hi h2 h3 => off.block _ (h.ne i 2 hi (by omega) h2) (h.ne i 3 hi (by omega) h3) (Nat.lt_of_lt_of_le (h.lt i hi) h.bw)
  exact ⟨h.row.of_block (key 0 (by omega) (by omega) (by omega)), hc, h.c2.of_blocks (fun j hj => by
    rcases hj with rfl | rfl | rfl
    · exact key 4 (by omega) (by omega) (by omega)
    · exact key 5 (by omega) (by omega) (by omega)
    · exact key 6 (by omega) (by omega) (by omega)), h.keep_sl (fun i hi h7 h9 => key i hi (by omega) (by omega)) (fun j hj => off.block _ (h.own_ne hj 2 (by omega)).symm (h.own_ne hj 3 (by omega)).symm (World.ownsRow.lt h.sl.own j hj).2),
    h.mp.of_block (key 10 (by omega) (by omega) (by omega)), h.inj, h.lt, Nat.le_trans h.bw off.size⟩
theorem QAt.step_c2 (h : QAt B w b v S k) {R' : Nat → List Nat} (hc : ChainRows w' (b 4) (b 5) (b 6) 256 64 R') (off : Off (b 5) (b 6) w w') : QAt B w' b v ⟨S.ids, S.gens, S.g, S.O, S.cl, S.fr, S.R1, R', S.f⟩ k := by
  have key : ∀ i, i < 11 → i ≠ 5 → i ≠ 6 → w'.heap[b i]? = w.heap[b i]? := fun i hi h2 h3 => off.block _ (h.ne i 5 hi (by omega) h2) (h.ne i 6 hi (by omega) h3) (Nat.lt_of_lt_of_le (h.lt i hi) h.bw)
  exact ⟨h.row.of_block (key 0 (by omega) (by omega) (by omega)), h.c1.of_blocks (fun j hj => by
    rcases hj with rfl | rfl | rfl
    · exact key 1 (by omega) (by omega) (by omega)
    · exact key 2 (by omega) (by omega) (by omega)
    · exact key 3 (by omega) (by omega) (by omega)), hc, h.keep_sl (fun i hi h7 h9 => key i hi (by omega) (by omega)) (fun j hj => off.block _ (h.own_ne hj 5 (by omega)).symm (h.own_ne hj 6 (by omega)).symm (World.ownsRow.lt h.sl.own j hj).2),
    h.mp.of_block (key 10 (by omega) (by omega) (by omega)), h.inj, h.lt, Nat.le_trans h.bw off.size⟩
theorem QAt.step_map (h : QAt B w b v S k) {f' : Int → Option Int} (hm : MapAt w' (b 10) k' f') (e : ∀ j, j < w.heap.size → j ≠ b 10 → w'.heap[j]? = w.heap[j]?) (hs : w.heap.size ≤ w'.heap.size) : QAt B w' b v ⟨S.ids, S.gens, S.g, S.O, S.cl, S.fr, S.R1, S.R2, f'⟩ k' := by
  have key : ∀ i, i < 11 → i ≠ 10 → w'.heap[b i]? = w.heap[b i]? := fun i hi h2 => e _ (Nat.lt_of_lt_of_le (h.lt i hi) h.bw) (h.ne i 10 hi (by omega) h2)
  exact ⟨h.row.of_block (key 0 (by omega) (by omega)), h.c1.of_blocks (fun j hj => by
    rcases hj with rfl | rfl | rfl
    · exact key 1 (by omega) (by omega)
    · exact key 2 (by omega) (by omega)
    · exact key 3 (by omega) (by omega)), h.c2.of_blocks (fun j hj => by
    rcases hj with rfl | rfl | rfl
    · exact key 4 (by omega) (by omega)
    · exact key 5 (by omega) (by omega)
    · exact key 6 (by omega) (by omega)), h.keep_sl (fun i hi h7 h9 => key i hi (by omega)) (fun j hj => e _ (World.ownsRow.lt h.sl.own j hj).2 (h.own_ne hj 10 (by omega)).symm), hm, h.inj, h.lt, Nat.le_trans h.bw hs⟩
theorem QAt.step_ids (h : QAt B w b v S k) (hi : S.ids.length = 256) {p : Nat} (hp : p < 256) (x y : Int) : QAt B ((w.setCell ⟨b 0, 4 + p, none⟩ (.int .i64 x)).setCell ⟨b 0, 260 + p, none⟩ (.int .i64 y)) b v ⟨S.ids.set p x, S.gens.set p y, S.g, S.O, S.cl, S.fr, S.R1, S.R2, S.f⟩ k := by
  have e : ∀ j, j ≠ b 0 → ((w.setCell ⟨b 0, 4 + p, none⟩ (.int .i64 x)).setCell ⟨b 0, 260 + p, none⟩ (.int .i64 y)).heap[j]? = w.heap[j]? := fun j hj => by rw [Below.heap_setCell _ _ _ _ hj, Below.heap_setCell _ _ _ _ hj]
  have key : ∀ i, i < 11 → i ≠ 0 → ((w.setCell ⟨b 0, 4 + p, none⟩ (.int .i64 x)).setCell ⟨b 0, 260 + p, none⟩ (.int .i64 y)).heap[b i]? = w.heap[b i]? := fun i hi h2 => e _ (h.ne i 0 hi (by omega) h2)
  refine ⟨?_, h.c1.of_blocks (fun j hj => by
    rcases hj with rfl | rfl | rfl
    · exact key 1 (by omega) (by omega)
    · exact key 2 (by omega) (by omega)
    · exact key 3 (by omega) (by omega)), h.c2.of_blocks (fun j hj => by
    rcases hj with rfl | rfl | rfl
    · exact key 4 (by omega) (by omega)
    · exact key 5 (by omega) (by omega)
    · exact key 6 (by omega) (by omega)), h.keep_sl (fun i hi h7 h9 => key i hi (by omega)) (fun j hj => e _ (h.own_ne hj 0 (by omega)).symm), h.mp.of_block (key 10 (by omega) (by omega)), h.inj, h.lt, by have := h.bw; simpa using this⟩
  have := (h.row.set_ (4 + p) (.int .i64 x)).set_ (260 + p) (.int .i64 y)
  rwa [qcells_set x y hi hp] at this
set_option maxRecDepth 100000 in
theorem queue_Add_arg1 (id c : Int) (h1 : id < 1) (h : QAt B w b v S k) : Calls Try.prog 60 #[.pointer (some ⟨b 0, 0, none⟩), .int .i64 id, .int .i64 c] w fun e w' => e = .returned (.int .i64 2) ∧ Below w.heap.size w w' := by
  have K := Lib.hid (queue_is h)
  clear h
  go_enter Try.func60, Try.ntmps60
  go_wp2_with fail
  refine K.out.mono ?_
  rintro e w1 ⟨rfl, rfl⟩
  go_wp2_with fail
  go_ret
  exact ⟨rfl, (by repeat (first | exact Below.refl _ _ | assumption | refine bel_drew ?_ | refine bel_drewN ?_ _ | refine bel_alloc ?_ _ | refine bel_set ?_ (by first | (dsimp only; omega) | (simp; done) | (simp; omega)) _ | refine bel_trans ?_ (by assumption)))⟩
set_option maxRecDepth 100000 in
theorem queue_Add_arg2 (id c : Int) (h1 : 1 ≤ id) (h2 : c < 0) (h : QAt B w b v S k) : Calls Try.prog 60 #[.pointer (some ⟨b 0, 0, none⟩), .int .i64 id, .int .i64 c] w fun e w' => e = .returned (.int .i64 2) ∧ Below w.heap.size w w' := by
  have K := Lib.hid (queue_is h)
  clear h
  go_enter Try.func60, Try.ntmps60
  go_wp2_with fail
  refine K.out.mono ?_
  rintro e w1 ⟨rfl, rfl⟩
  go_wp2_with fail
  go_ret
  exact ⟨rfl, (by repeat (first | exact Below.refl _ _ | assumption | refine bel_drew ?_ | refine bel_drewN ?_ _ | refine bel_alloc ?_ _ | refine bel_set ?_ (by first | (dsimp only; omega) | (simp; done) | (simp; omega)) _ | refine bel_trans ?_ (by assumption)))⟩
set_option maxRecDepth 100000 in
theorem queue_Add_arg3 (id c : Int) (h1 : 1 ≤ id) (h2 : 0 ≤ c) (h3 : 64 ≤ c) (h : QAt B w b v S k) : Calls Try.prog 60 #[.pointer (some ⟨b 0, 0, none⟩), .int .i64 id, .int .i64 c] w fun e w' => e = .returned (.int .i64 2) ∧ Below w.heap.size w w' := by
  have K := Lib.hid (queue_is h)
  clear h
  go_enter Try.func60, Try.ntmps60
  go_wp2_with fail
  refine K.out.mono ?_
  rintro e w1 ⟨rfl, rfl⟩
  go_wp2_with fail
  go_ret
  exact ⟨rfl, (by repeat (first | exact Below.refl _ _ | assumption | refine bel_drew ?_ | refine bel_drewN ?_ _ | refine bel_alloc ?_ _ | refine bel_set ?_ (by first | (dsimp only; omega) | (simp; done) | (simp; omega)) _ | refine bel_trans ?_ (by assumption)))⟩
set_option maxRecDepth 100000 in
theorem queue_Add_twice (id c : Int) (hx : BdI id) (h1 : 1 ≤ id) (h2 : 0 ≤ c) (h3 : c < 64) (p : Nat) (hf : S.f id = some (p : Int)) (h : QAt B w b v S k) : Calls Try.prog 60 #[.pointer (some ⟨b 0, 0, none⟩), .int .i64 id, .int .i64 c] w fun e w' => e = .returned (.int .i64 19) ∧ Below w.heap.size w w' := by
  have K := Lib.hid (queue_is h)
  have f3 := h.f3
  have hl := h.mp.look id hx
  rw [hf] at hl
  clear h hx hf
  go_enter Try.func60, Try.ntmps60
  go_wp2_with fail
  refine K.out.mono ?_
  rintro e w1 ⟨rfl, rfl⟩
  go_wp2_with fail
  go_ret
  exact ⟨rfl, (by repeat (first | exact Below.refl _ _ | assumption | refine bel_drew ?_ | refine bel_drewN ?_ _ | refine bel_alloc ?_ _ | refine bel_set ?_ (by first | (dsimp only; omega) | (simp; done) | (simp; omega)) _ | refine bel_trans ?_ (by assumption)))⟩
set_option maxRecDepth 100000 in
theorem queue_Add_full (id c : Int) (hx : BdI id) (h1 : 1 ≤ id) (h2 : 0 ≤ c) (h3 : c < 64) (hf : S.f id = none) (hp : pickP S.cl S.fr 256 = none) (h : QAt B w b v S k) : Calls Try.prog 60 #[.pointer (some ⟨b 0, 0, none⟩), .int .i64 id, .int .i64 c] w fun e w' => e = .returned (.int .i64 10) ∧ Below w.heap.size w w' := by
  have K := Lib.hid (queue_is h)
  have f3 := h.f3
  have f2 := h.f2
  have hl := h.mp.look id hx
  rw [hf] at hl
  have KO := Lib.hid (slots_Open_no h.sl hp)
  clear h hx hf hp
  go_enter Try.func60, Try.ntmps60
  go_wp2_with fail
  refine K.out.mono ?_
  rintro e w1 ⟨rfl, rfl⟩
  go_wp2_with fail
  refine KO.out.mono ?_
  rintro e w1 ⟨rfl, hb⟩
  go_wp2_with fail
  go_ret
  exact ⟨rfl, (by repeat (first | exact Below.refl _ _ | assumption | refine bel_drew ?_ | refine bel_drewN ?_ _ | refine bel_alloc ?_ _ | refine bel_set ?_ (by first | (dsimp only; omega) | (simp; done) | (simp; omega)) _ | refine bel_trans ?_ (by assumption)))⟩
/-- What Add hands back. -/
def QAdd (B : Nat) (b : Nat → Nat) (v : Value) (S' : QSt) (k : Nat) (w : World) (e : Ending) (w' : World) : Prop :=
  e = .returned (.int .i64 0) ∧ ∃ v', QAt B w' b v' S' k ∧ Chg (fun j => ∃ i, i < 11 ∧ j = b i) w w' ∧ v'.ownBlock = v.ownBlock
set_option maxRecDepth 100000 in
set_option maxHeartbeats 4000000 in
theorem queue_Add_ok (id c : Int) (L : List (Int × Int × Nat)) (hI : QInv S L) {p : Nat} {cl' : List Nat} {fr' : Nat} (hx : BdI id) (h1 : 1 ≤ id) (h2 : 0 ≤ c) (h3 : c < 64) (hf : S.f id = none) (hp : pickP S.cl S.fr 256 = some (p, cl', fr')) (hk : k ≤ 100000) (h : QAt B w b v S k) :
    Calls Try.prog 60 #[.pointer (some ⟨b 0, 0, none⟩), .int .i64 id, .int .i64 c] w (QAdd B b v (S.add id c p cl' fr') (k + 1) w) := by
  have K := Lib.hid (queue_is h)
  have f3 := h.f3
  have f2 := h.f2
  have hl := h.mp.look id hx
  rw [hf] at hl
  obtain ⟨-, hno, hp256, -⟩ := hI.s.pick hp
  have KO := Lib.hid (slots_Open h.sl hI.s hp)
  have HQ := Lib.hid h
  have HI := Lib.hid hI
  have HX := Lib.hid hx
  have HP := Lib.hid hp256
  have HO1 := Lib.hid (hI.out1 hno)
  have HO2 := Lib.hid (hI.out2 hno)
  have g0 : (0 : Int) ≤ (p : Int) := by omega
  have g1 : (p : Int) < 256 := by omega
  obtain ⟨gp, hgp⟩ : ∃ gp, S.g.getD p 0 = gp := ⟨_, rfl⟩
  have HGP := Lib.hid hgp
  have HKK := Lib.hid hk
  clear h hI hx hf hp hno hp256 hgp hk
  go_enter Try.func60, Try.ntmps60
  go_wp2_with fail
  refine K.out.mono ?_
  rintro e w1 ⟨rfl, rfl⟩
  go_wp2_with fail
  refine KO.out.mono ?_
  rintro e w1 ⟨rfl, hc, v', hsl, hv⟩
  rw [HGP.out]
  have HC0 : Hid (Chg (fun j => ∃ i, i < 11 ∧ j = b i) w w1) := Lib.hid (hc.mono (fun j _ hj => by
    rcases hj with rfl | rfl
    · exact ⟨7, by omega, rfl⟩
    · exact ⟨9, by omega, rfl⟩))
  have Q1 := Lib.hid (HQ.out.step_slots hsl (hc.mono (fun j _ hj => by
    rcases hj with rfl | rfl
    · exact .inl rfl
    · exact .inr (.inr (.inl rfl)))))
  have HV := Lib.hid hv
  clear hc hsl hv K KO f3 f2 hl HQ
  have mp1 : MapAt w1.drew (b 10) k S.f := Q1.out.mp.of_block rfl
  obtain ⟨v0, st, u2, hen, hg2, hst⟩ := mp1.enter id (p : Int) HX.out ⟨by omega, by omega⟩ (by have := HKK.out; unfold maxLen; omega)
  obtain ⟨u3, hst3, hg3, mp3⟩ := hst u2 rfl
  have HEN := Lib.hid hen
  have HST := Lib.hid hst3
  have far2 : ∀ j, j < w1.heap.size → j ≠ b 10 → u2.heap[j]? = w1.heap[j]? := fun j hj hne => hg2.block j hj (fun e => hne (by cases e; rfl))
  have far3 : ∀ j, j < w1.heap.size → j ≠ b 10 → u3.heap[j]? = w1.heap[j]? := fun j hj hne => (hg3.block j (Nat.lt_of_lt_of_le hj hg2.size) (fun e => hne (by cases e; rfl))).trans (far2 j hj hne)
  have Q3 := Q1.out.step_map mp3 far3 (Nat.le_trans hg2.size hg3.size)
  have hne0 : b 0 ≠ b 10 := Q1.out.ne 0 10 (by omega) (by omega) (by omega)
  have lt0 : b 0 < w1.heap.size := Q1.out.row.lt
  have s1 : w1.drew.cell? ⟨b 0, 3, none⟩ = some (.map (some (b 10))) := Q1.out.f3
  have s2 : u2.cell? ⟨b 0, 3, none⟩ = some (.map (some (b 10))) := (World.cell?_of_block (far2 _ lt0 hne0)).trans Q1.out.f3
  have s3 : u3.cell? ⟨b 0, 3, none⟩ = some (.map (some (b 10))) := Q3.f3
  have y0 : u3.cell? ⟨b 0, 4 + p, none⟩ = some (.int .i64 (S.ids.getD p 0)) := by rw [Q3.row.cell]; exact qcells_id (by have := HI.out.il; have := HP.out; show p < S.ids.length; omega)
  have y1 : u3.cell? ⟨b 0, 260 + p, none⟩ = some (.int .i64 (S.gens.getD p 0)) := by rw [Q3.row.cell]; exact qcells_gen HI.out.il (by have := HI.out.gl; have := HP.out; show p < S.gens.length; omega)
  have z0 := Q3.row.frozen (4 + p)
  have z1 := Q3.row.frozen (260 + p)
  have HC3 : Hid (Chg (fun j => ∃ i, i < 11 ∧ j = b i) w1 u3) := Lib.hid ⟨hg3.os.trans hg2.os, hg3.tape.trans hg2.tape, hg3.output.trans hg2.output, Nat.le_trans hg2.size hg3.size, fun j hj hn => far3 j hj (fun e => hn ⟨10, by omega, e⟩)⟩
  have HQ3 := Lib.hid Q3
  clear hen hst hst3 hg2 hg3 mp1 mp3 far2 far3 Q3 hne0 lt0
  have f3 := Q1.out.f3
  go_upto_region 11 with (fail)
  refine wp_region_held_drew (S := (fun W : World => W.cell? ⟨b 0, 3, none⟩ = some (.map (some (b 10))))) (by kernel_rfl) ?_ (fun hHeld => ?_)
  focus ((try dsimp only); first | exact s1 | exact s2 | exact s3 | (rw [World.cell?_setCell_other _ _ _ _ (by simp)]; exact s3) | (rw [World.cell?_setCell_other _ _ _ _ (by simp), World.cell?_setCell_other _ _ _ _ (by simp)]; exact s3))
  refine tk_yes 0 (v := ?_) rfl (by kernel_rfl) (by kernel_rfl) (by kernel_rfl) (fun _ _ _ h => h) (by kernel_rfl) (by assumption) ?_ ?_; rotate_left; (focus (intro w hSw; (try dsimp only at hSw); go_simp; (first | done | (with_reducible rfl)))); (try simp only [Act.put, List.setIfInBounds_toArray, List.set_cons_zero, List.set_cons_succ])
  refine tk_yes 1 (v := ?_) rfl (by kernel_rfl) (by kernel_rfl) (by kernel_rfl) (fun _ _ _ h => h) (by kernel_rfl) (by assumption) ?_ ?_; rotate_left; (focus (intro w hSw; (try dsimp only at hSw); go_simp; (first | done | (with_reducible rfl)))); (try simp only [Act.put, List.setIfInBounds_toArray, List.set_cons_zero, List.set_cons_succ])
  refine tk_yes 2 (v := ?_) rfl (by kernel_rfl) (by kernel_rfl) (by kernel_rfl) (fun _ _ _ h => h) (by kernel_rfl) (by assumption) ?_ ?_; rotate_left; (focus (intro w hSw; (try dsimp only at hSw); go_simp; (first | done | (with_reducible rfl)))); (try simp only [Act.put, List.setIfInBounds_toArray, List.set_cons_zero, List.set_cons_succ])
  refine tk_yes 3 (v := ?_) rfl (by kernel_rfl) (by kernel_rfl) (by kernel_rfl) (fun _ _ _ h => h) (by kernel_rfl) (by assumption) ?_ ?_; rotate_left; (focus (intro w hSw; (try dsimp only at hSw); go_simp; (first | done | (with_reducible rfl)))); (try simp only [Act.put, List.setIfInBounds_toArray, List.set_cons_zero, List.set_cons_succ])
  refine tk_yes 4 (v := ?_) rfl (by kernel_rfl) (by kernel_rfl) (by kernel_rfl) (fun _ _ _ h => h) (by kernel_rfl) (by assumption) ?_ ?_; rotate_left; (focus (intro w hSw; (try dsimp only at hSw); go_simp; (first | done | (with_reducible rfl)))); (try simp only [Act.put, List.setIfInBounds_toArray, List.set_cons_zero, List.set_cons_succ])
  refine tk_yes 5 (v := ?_) rfl (by kernel_rfl) (by kernel_rfl) (by kernel_rfl) (fun _ _ _ h => h) (by kernel_rfl) (by assumption) ?_ ?_; rotate_left; (focus (intro w hSw; (try dsimp only at hSw); go_simp; (first | done | (with_reducible rfl)))); (try simp only [Act.put, List.setIfInBounds_toArray, List.set_cons_zero, List.set_cons_succ])
  refine tk_yes 6 (v := ?_) rfl (by kernel_rfl) (by kernel_rfl) (by kernel_rfl) (fun _ _ _ h => h) (by kernel_rfl) (by assumption) ?_ ?_; rotate_left; (focus (intro w hSw; (try dsimp only at hSw); go_simp; (first | done | (with_reducible rfl)))); (try simp only [Act.put, List.setIfInBounds_toArray, List.set_cons_zero, List.set_cons_succ])
  refine tk_yes 7 (v := ?_) rfl (by kernel_rfl) (by kernel_rfl) (by kernel_rfl) (fun _ _ _ h => h) (by kernel_rfl) (by assumption) ?_ ?_; rotate_left; (focus (intro w hSw; (try dsimp only at hSw); go_simp; (first | done | (with_reducible rfl)))); (try simp only [Act.put, List.setIfInBounds_toArray, List.set_cons_zero, List.set_cons_succ])
  refine tk_yes 8 (v := ?_) rfl (by kernel_rfl) (by kernel_rfl) (by kernel_rfl) (fun _ _ _ h => h) (by kernel_rfl) (by assumption) ?_ ?_; rotate_left; (focus (intro w hSw; (try dsimp only at hSw); go_simp; (first | done | (with_reducible rfl)))); (try simp only [Act.put, List.setIfInBounds_toArray, List.set_cons_zero, List.set_cons_succ])
  refine tk_yes 9 (v := ?_) rfl (by kernel_rfl) (by kernel_rfl) (by kernel_rfl) (fun _ _ _ h => h) (by kernel_rfl) (by assumption) ?_ ?_; rotate_left; (focus (intro w hSw; (try dsimp only at hSw); go_simp; (first | done | (with_reducible rfl)))); (try simp only [Act.put, List.setIfInBounds_toArray, List.set_cons_zero, List.set_cons_succ])
  refine tk_yes 10 (v := ?_) rfl (by kernel_rfl) (by kernel_rfl) (by kernel_rfl) (fun _ _ _ h => h) (by kernel_rfl) (by assumption) ?_ ?_; rotate_left; (focus (intro w hSw; (try dsimp only at hSw); go_simp; (first | done | (with_reducible rfl)))); (try simp only [Act.put, List.setIfInBounds_toArray, List.set_cons_zero, List.set_cons_succ])
  refine tk_yes 11 (v := ?_) rfl (by kernel_rfl) (by kernel_rfl) (by kernel_rfl) (fun _ _ _ h => h) (by kernel_rfl) (by assumption) ?_ ?_; rotate_left; (focus (intro w hSw; (try dsimp only at hSw); go_simp; (first | done | (with_reducible rfl)))); (try simp only [Act.put, List.setIfInBounds_toArray, List.set_cons_zero, List.set_cons_succ])
  refine tk_yes 15 (v := ?_) rfl (by kernel_rfl) (by kernel_rfl) (by kernel_rfl) (fun _ _ _ h => h) (by kernel_rfl) (by assumption) ?_ ?_; rotate_left; (focus (intro w hSw; (try dsimp only at hSw); go_simp; (first | done | (with_reducible rfl)))); (try simp only [Act.put, List.setIfInBounds_toArray, List.set_cons_zero, List.set_cons_succ])
  refine tk_yes 16 (v := ?_) rfl (by kernel_rfl) (by kernel_rfl) (by kernel_rfl) (fun _ _ _ h => h) (by kernel_rfl) (by assumption) ?_ ?_; rotate_left; (focus (intro w hSw; (try dsimp only at hSw); go_simp; (first | done | (with_reducible rfl)))); (try simp only [Act.put, List.setIfInBounds_toArray, List.set_cons_zero, List.set_cons_succ])
  refine tk_yes 19 (v := ?_) rfl (by kernel_rfl) (by kernel_rfl) (by kernel_rfl) (fun _ _ _ h => h) (by kernel_rfl) (by assumption) ?_ ?_; rotate_left; (focus (intro w hSw; (try dsimp only at hSw); go_simp; (first | done | (with_reducible rfl)))); (try simp only [Act.put, List.setIfInBounds_toArray, List.set_cons_zero, List.set_cons_succ])
  refine tk_yes 20 (v := ?_) rfl (by kernel_rfl) (by kernel_rfl) (by kernel_rfl) (fun _ _ _ h => h) (by kernel_rfl) (by assumption) ?_ ?_; rotate_left; (focus (intro w hSw; (try dsimp only at hSw); go_simp; (first | done | (with_reducible rfl)))); (try simp only [Act.put, List.setIfInBounds_toArray, List.set_cons_zero, List.set_cons_succ])
  refine tk_call 12 rfl (by kernel_rfl) (by kernel_rfl) (fun KW hKW => ?_); refine wp_mapEntry (.tmp 51) (.tmp 52) rfl rfl rfl HEN.out ?_; refine hKW.out _ _ ?_ (fun hHeld => ?_); (focus ((try dsimp only); first | exact s1 | exact s2 | exact s3 | (rw [World.cell?_setCell_other _ _ _ _ (by simp)]; exact s3) | (rw [World.cell?_setCell_other _ _ _ _ (by simp), World.cell?_setCell_other _ _ _ _ (by simp)]; exact s3))); clear hKW KW; (try simp only [Act.put, List.setIfInBounds_toArray, List.set_cons_zero, List.set_cons_succ])
  refine tk_yes 13 (v := ?_) rfl (by kernel_rfl) (by kernel_rfl) (by kernel_rfl) (fun _ _ _ h => h) (by kernel_rfl) (by assumption) ?_ ?_; rotate_left; (focus (intro w hSw; (try dsimp only at hSw); go_simp; (first | done | (with_reducible rfl)))); (try simp only [Act.put, List.setIfInBounds_toArray, List.set_cons_zero, List.set_cons_succ])
  refine tk_call 14 rfl (by kernel_rfl) (by kernel_rfl) (fun KW hKW => ?_); refine wp_entryStore (.tmp 51) (.tmp 61) (.tmp 57) rfl rfl rfl rfl HST.out ?_; refine hKW.out _ _ ?_ (fun hHeld => ?_); (focus ((try dsimp only); first | exact s1 | exact s2 | exact s3 | (rw [World.cell?_setCell_other _ _ _ _ (by simp)]; exact s3) | (rw [World.cell?_setCell_other _ _ _ _ (by simp), World.cell?_setCell_other _ _ _ _ (by simp)]; exact s3))); clear hKW KW; (try simp only [Act.put, List.setIfInBounds_toArray, List.set_cons_zero, List.set_cons_succ])
  refine tk_yes 17 (v := ?_) rfl (by kernel_rfl) (by kernel_rfl) (by kernel_rfl) (fun _ _ _ h => h) (by kernel_rfl) (by assumption) ?_ ?_; rotate_left; (focus (intro w hSw; (try dsimp only at hSw); go_simp; (first | done | (with_reducible rfl)))); (try simp only [Act.put, List.setIfInBounds_toArray, List.set_cons_zero, List.set_cons_succ])
  refine tk_call 18 rfl (by kernel_rfl) (by kernel_rfl) (fun KW hKW => ?_); go_simp; refine hKW.out _ _ ?_ (fun hHeld => ?_); (focus ((try dsimp only); first | exact s1 | exact s2 | exact s3 | (rw [World.cell?_setCell_other _ _ _ _ (by simp)]; exact s3) | (rw [World.cell?_setCell_other _ _ _ _ (by simp), World.cell?_setCell_other _ _ _ _ (by simp)]; exact s3))); clear hKW KW; (try simp only [Act.put, List.setIfInBounds_toArray, List.set_cons_zero, List.set_cons_succ])
  refine tk_yes 21 (v := ?_) rfl (by kernel_rfl) (by kernel_rfl) (by kernel_rfl) (fun _ _ _ h => h) (by kernel_rfl) (by assumption) ?_ ?_; rotate_left; (focus (intro w hSw; (try dsimp only at hSw); go_simp; (first | done | (with_reducible rfl)))); (try simp only [Act.put, List.setIfInBounds_toArray, List.set_cons_zero, List.set_cons_succ])
  refine tk_call 22 rfl (by kernel_rfl) (by kernel_rfl) (fun KW hKW => ?_); go_simp; refine hKW.out _ _ ?_ (fun hHeld => ?_); (focus ((try dsimp only); first | exact s1 | exact s2 | exact s3 | (rw [World.cell?_setCell_other _ _ _ _ (by simp)]; exact s3) | (rw [World.cell?_setCell_other _ _ _ _ (by simp), World.cell?_setCell_other _ _ _ _ (by simp)]; exact s3))); clear hKW KW; (try simp only [Act.put, List.setIfInBounds_toArray, List.set_cons_zero, List.set_cons_succ])
  refine wpAnyH_done (by kernel_rfl) ?_ _
  clear s1 s2 s3 y0 y1 z0 z1 f3 HEN HST
  go_upto_region 12 with (fail)
  refine region_name ?_
  rintro W4 hW4
  have Q4 : QAt B W4 b v' ⟨S.ids.set p id, S.gens.set p gp, S.g, p :: S.O, cl', fr', S.R1, S.R2, fun z => if z = id then some (p : Int) else S.f z⟩ (k + 1) := by
    rw [hW4]
    exact HQ3.out.step_ids HI.out.il HP.out id gp
  have C4 : Hid (Chg (fun j => ∃ i, i < 11 ∧ j = b i) w1 W4) := Lib.hid (by
    rw [hW4]
    exact (HC3.out.set (p := ⟨b 0, 4 + p, none⟩) ⟨0, by omega, rfl⟩ _).set (p := ⟨b 0, 260 + p, none⟩) ⟨0, by omega, rfl⟩ _)
  clear hW4 HQ3 HC3 Q1
  have f0 := Q4.f0
  have K1 := chain_Add 0 (p : Int) Q4.c1
  have a1 : PC.addB 256 1 S.R1 0 (p : Int) = true := by unfold PC.addB; rw [HO1.out]; exact decide_eq_true ⟨by omega, by omega, by omega, by omega, by omega⟩
  have a2 : PC.addR 256 1 S.R1 0 (p : Int) = PC.updR S.R1 0 (S.R1 0 ++ [p]) := by unfold PC.addR; rw [if_pos a1]; rfl
  rw [a1, a2] at K1
  replace K1 := Lib.hid K1
  have HQ4 := Lib.hid Q4
  clear Q4 a1 a2
  go_wp2_with fail
  refine K1.out.mono ?_
  rintro e w5 ⟨rfl, hc5, off5⟩
  have Q5 := HQ4.out.step_c1 hc5 off5
  have C5 := Lib.hid ((C4.out).trans ((Chg.of_off off5 (own := fun j => ∃ i, i < 11 ∧ j = b i) ⟨2, by omega, rfl⟩ ⟨3, by omega, rfl⟩)))
  have f1 := Q5.f1
  have K2 := chain_Add c (p : Int) Q5.c2
  have a1 : PC.addB 256 64 S.R2 c (p : Int) = true := by unfold PC.addB; rw [HO2.out]; exact decide_eq_true ⟨by omega, by omega, by omega, by omega, by omega⟩
  have a2 : PC.addR 256 64 S.R2 c (p : Int) = PC.updR S.R2 c.toNat (S.R2 c.toNat ++ [p]) := by unfold PC.addR; rw [if_pos a1]; rfl
  rw [a1, a2] at K2
  replace K2 := Lib.hid K2
  have HQ5 := Lib.hid Q5
  clear Q5 a1 a2 hc5 off5 f0 K1
  go_wp2_with fail
  refine K2.out.mono ?_
  rintro e w6 ⟨rfl, hc6, off6⟩
  have Q6 := Lib.hid (HQ5.out.step_c2 hc6 off6)
  have C6 := Lib.hid ((C5.out).trans ((Chg.of_off off6 (own := fun j => ∃ i, i < 11 ∧ j = b i) ⟨5, by omega, rfl⟩ ⟨6, by omega, rfl⟩)))
  clear hc6 off6 f1 K2
  go_wp2_with fail
  go_ret
  refine ⟨rfl, v', ?_, HC0.out.trans C6.out, HV.out⟩
  have := Q6.out
  rw [← HGP.out] at this
  exact this
end Go.Proofs.Ytdhcmnbajkpjiaa
/-
  Queue: Drop.
-/
namespace Go.Proofs.Ytdhcmnbajkpjiaa
open Go.RowKit
open Go.Maps
set_option linter.unusedVariables false
set_option linter.unusedSimpArgs false
attribute [local go_sem] drewN_alloc drewN_setCell

variable {B : Nat} {w w' : World} {b : Nat → Nat} {v v' : Value} {S : QSt} {k k' : Nat}
theorem queue_Drop_no (id : Int) (hx : BdI id) (hf : S.f id = none) (h : QAt B w b v S k) : Calls Try.prog 58 #[.pointer (some ⟨b 0, 0, none⟩), .int .i64 id] w fun e w' => e = .returned (.int .i64 12) ∧ w = w' := by
  have K := Lib.hid (queue_is h)
  have K0 := queue_find id hx h
  rw [hf] at K0
  replace K0 := Lib.hid K0
  clear h hf
  go_enter Try.func58, Try.ntmps58
  go_wp2_with fail
  refine K.out.mono ?_
  rintro e w1 ⟨rfl, rfl⟩
  go_wp2_with fail
  refine K0.out.mono ?_
  rintro e w1 ⟨rfl, rfl⟩
  go_wp2_with fail
  go_ret
  exact ⟨rfl, rfl⟩
/-- What Drop hands back. -/
def QDrop (B : Nat) (b : Nat → Nat) (v : Value) (S' : QSt) (k : Nat) (w : World) (e : Ending) (w' : World) : Prop :=
  e = .returned (.int .i64 0) ∧ ∃ v', QAt B w' b v' S' k ∧ Chg (fun j => (∃ i, i < 11 ∧ j = b i) ∨ v.ownBlock = some j) w w' ∧ (v'.ownBlock = v.ownBlock ∨ ∃ j, v'.ownBlock = some j ∧ w.heap.size ≤ j)
set_option maxRecDepth 100000 in
set_option maxHeartbeats 4000000 in
theorem queue_Drop_ok (L : List (Int × Int × Nat)) (hI : QInv S L) (t : Int × Int × Nat) (ht : t ∈ L) (h : QAt B w b v S k) :
    Calls Try.prog 58 #[.pointer (some ⟨b 0, 0, none⟩), .int .i64 t.1] w (QDrop B b v (S.drop t.1 t.2.2) (k - 1) w) := by
  obtain ⟨id, c, p⟩ := t
  have hx : BdI id := (hI.ok _ ht).2.1
  have hf : S.f id = some (p : Int) := hI.find ht
  have hp256 : p < 256 := hI.node_lt ht
  have hpO : p ∈ S.O := (hI.mem p).2 (List.mem_map.2 ⟨_, ht, rfl⟩)
  have hgg : S.gens.getD p 0 = S.g.getD p 0 := hI.gens _ ht
  have hr : rightB S.O S.g (p : Int) (S.g.getD p 0) = true := by
    unfold rightB
    rw [decide_eq_true (in_ints.2 hpO)]
    simp
  have hb1 : PC.dropB 1 S.R1 (p : Int) = true := by
    unfold PC.dropB PC.ofV
    rw [hI.row1_of ht]; rfl
  have hb2 : PC.dropB 64 S.R2 (p : Int) = true := by
    unfold PC.dropB PC.ofV
    rw [hI.row2_of ht]
    exact decide_eq_true (by show (0 : Int) ≤ ((c.toNat : Nat) : Int); omega)
  have K := Lib.hid (queue_is h)
  have K0 := queue_find id hx h
  rw [hf] at K0
  replace K0 : Hid (Calls Try.prog 126 #[.pointer (some ⟨b 0, 0, none⟩), .int .i64 id] w fun e w' => e = .returned (.int .i64 (p : Int)) ∧ w = w') := Lib.hid K0
  have f3 := h.f3
  obtain ⟨gp, hgp⟩ : ∃ gp, S.g.getD p 0 = gp := ⟨_, rfl⟩
  rw [hgp] at hr hgg
  have HGP := Lib.hid hgp
  have HGG := Lib.hid hgg
  have HR := Lib.hid hr
  have HI := Lib.hid hI
  have HP := Lib.hid hp256
  have HPO := Lib.hid hpO
  have HB1 := Lib.hid hb1
  have HB2 := Lib.hid hb2
  obtain ⟨w2, hrun, hm2, hg2⟩ := h.mp.del id hx (by rw [hf]; rfl) 0
  have Q2 := h.step_map hm2 (fun j hj hne => hg2.block j hj (fun e => hne (by cases e; rfl))) hg2.size
  have C2 : Hid (Chg (fun j => (∃ i, i < 11 ∧ j = b i) ∨ v.ownBlock = some j) w w2) := Lib.hid (Chg.of_grown hg2 (fun j e => by cases e; exact .inl ⟨10, by omega, rfl⟩))
  have f0 := Q2.f0
  have K1 := chain_Drop (p : Int) Q2.c1
  rw [hb1] at K1
  replace K1 := Lib.hid K1
  have HQ2 := Lib.hid Q2
  have g0 : (0 : Int) ≤ (p : Int) := by omega
  have g1 : (p : Int) < 256 := by omega
  have g2 : ¬ (p : Int) < 0 := by omega
  clear h hI ht hx hf hp256 hpO hgg hr hb1 hb2 hm2 hg2 Q2 hgp
  go_enter Try.func58, Try.ntmps58
  go_wp2_with fail
  refine K.out.mono ?_
  rintro e w1 ⟨rfl, rfl⟩
  go_wp2_with fail
  refine K0.out.mono ?_
  rintro e w1 ⟨rfl, rfl⟩
  go_wp2_with fail
  refine K1.out.mono ?_
  rintro e w5 ⟨rfl, hc5, off5⟩
  have Q5 := HQ2.out.step_c1 hc5 off5
  have C5 := Lib.hid ((C2.out).trans ((Chg.of_off off5 (own := fun j => (∃ i, i < 11 ∧ j = b i) ∨ v.ownBlock = some j) (.inl ⟨2, by omega, rfl⟩) (.inl ⟨3, by omega, rfl⟩))))
  have f1 := Q5.f1
  have K2 := chain_Drop (p : Int) Q5.c2
  rw [HB2.out] at K2
  replace K2 := Lib.hid K2
  have HQ5 := Lib.hid Q5
  clear Q5 hc5 off5 f0 K1 K0 K f3 hrun
  go_wp2_with fail
  refine K2.out.mono ?_
  rintro e w6 ⟨rfl, hc6, off6⟩
  have Q6 := HQ5.out.step_c2 hc6 off6
  have C6 := Lib.hid ((C5.out).trans ((Chg.of_off off6 (own := fun j => (∃ i, i < 11 ∧ j = b i) ∨ v.ownBlock = some j) (.inl ⟨5, by omega, rfl⟩) (.inl ⟨6, by omega, rfl⟩))))
  have QD : QAt B w6.drew b v _ _ := Q6.of_blocks (w' := w6.drew) (fun _ _ => rfl) (Nat.le_refl _)
  have KC := Lib.hid (slots_Close p gp QD.sl HI.out.s HR.out QD.bw)
  have hS : w6.drew.cell? ⟨b 0, 2, none⟩ = some (.pointer (some ⟨b 7, 0, none⟩)) ∧ w6.drew.cell? ⟨b 0, 260 + p, none⟩ = some (.int .i64 gp) := ⟨QD.f2, by
    rw [QD.row.cell, ← HGG.out]
    exact qcells_gen HI.out.il (by have := HI.out.gl; have := HP.out; show p < S.gens.length; omega)⟩
  have HQD := Lib.hid QD
  have hAft : Hid (∀ u, SClose B (b 7) (b 8) (b 9) 256 v S.g S.O S.cl S.fr p w6.drew (.returned (.bool true)) u → u.cell? ⟨b 0, 2, none⟩ = some (.pointer (some ⟨b 7, 0, none⟩)) ∧ u.cell? ⟨b 0, 260 + p, none⟩ = some (.int .i64 gp)) := Lib.hid (fun u hu => by
    obtain ⟨-, v', h1, h2, h3⟩ := hu
    have Q7 := HQD.out.step_slots h1 h2
    exact ⟨Q7.f2, by
      rw [Q7.row.cell, ← HGG.out]
      exact qcells_gen HI.out.il (by have := HI.out.gl; have := HP.out; show p < S.gens.length; omega)⟩)
  clear hc6 off6 f1 K2 Q6 QD
  go_upto_region 9 with (fail)
  refine wp_region_held_drew (S := (fun W : World => W.cell? ⟨b 0, 2, none⟩ = some (.pointer (some ⟨b 7, 0, none⟩)) ∧ W.cell? ⟨b 0, 260 + p, none⟩ = some (.int .i64 gp))) (by kernel_rfl) ?_ (fun hHeld => ?_)
  focus ((try dsimp only); first | exact s1 | exact hS)
  refine tk_yes 0 (v := ?_) rfl (by kernel_rfl) (by kernel_rfl) (by kernel_rfl) (fun _ _ _ h => h) (by kernel_rfl) (by assumption) ?_ ?_; rotate_left; (focus (intro w hSw; (try dsimp only at hSw); go_simp; (first | done | (with_reducible rfl)))); (try simp only [Act.put, List.setIfInBounds_toArray, List.set_cons_zero, List.set_cons_succ])
  refine tk_yes 1 (v := ?_) rfl (by kernel_rfl) (by kernel_rfl) (by kernel_rfl) (fun _ _ _ h => h) (by kernel_rfl) (by assumption) ?_ ?_; rotate_left; (focus (intro w hSw; (try dsimp only at hSw); go_simp; (first | done | (with_reducible rfl)))); (try simp only [Act.put, List.setIfInBounds_toArray, List.set_cons_zero, List.set_cons_succ])
  refine tk_yes 2 (v := ?_) rfl (by kernel_rfl) (by kernel_rfl) (by kernel_rfl) (fun _ _ _ h => h) (by kernel_rfl) (by assumption) ?_ ?_; rotate_left; (focus (intro w hSw; (try dsimp only at hSw); go_simp; (first | done | (with_reducible rfl)))); (try simp only [Act.put, List.setIfInBounds_toArray, List.set_cons_zero, List.set_cons_succ])
  refine tk_yes 3 (v := ?_) rfl (by kernel_rfl) (by kernel_rfl) (by kernel_rfl) (fun _ _ _ h => h) (by kernel_rfl) (by assumption) ?_ ?_; rotate_left; (focus (intro w hSw; (try dsimp only at hSw); go_simp; (first | done | (with_reducible rfl)))); (try simp only [Act.put, List.setIfInBounds_toArray, List.set_cons_zero, List.set_cons_succ])
  refine tk_yes 4 (v := ?_) rfl (by kernel_rfl) (by kernel_rfl) (by kernel_rfl) (fun _ _ _ h => h) (by kernel_rfl) (by assumption) ?_ ?_; rotate_left; (focus (intro w hSw; (try dsimp only at hSw); go_simp; (first | done | (with_reducible rfl)))); (try simp only [Act.put, List.setIfInBounds_toArray, List.set_cons_zero, List.set_cons_succ])
  refine tk_yes 5 (v := ?_) rfl (by kernel_rfl) (by kernel_rfl) (by kernel_rfl) (fun _ _ _ h => h) (by kernel_rfl) (by assumption) ?_ ?_; rotate_left; (focus (intro w hSw; (try dsimp only at hSw); go_simp; (first | done | (with_reducible rfl)))); (try simp only [Act.put, List.setIfInBounds_toArray, List.set_cons_zero, List.set_cons_succ])
  refine tk_yes 6 (v := ?_) rfl (by kernel_rfl) (by kernel_rfl) (by kernel_rfl) (fun _ _ _ h => h) (by kernel_rfl) (by assumption) ?_ ?_; rotate_left; (focus (intro w hSw; (try dsimp only at hSw); go_simp; (first | done | (with_reducible rfl)))); (try simp only [Act.put, List.setIfInBounds_toArray, List.set_cons_zero, List.set_cons_succ])
  refine tk_yes 7 (v := ?_) rfl (by kernel_rfl) (by kernel_rfl) (by kernel_rfl) (fun _ _ _ h => h) (by kernel_rfl) (by assumption) ?_ ?_; rotate_left; (focus (intro w hSw; (try dsimp only at hSw); go_simp; (first | done | (with_reducible rfl)))); (try simp only [Act.put, List.setIfInBounds_toArray, List.set_cons_zero, List.set_cons_succ])
  refine tk_yes 8 (v := ?_) rfl (by kernel_rfl) (by kernel_rfl) (by kernel_rfl) (fun _ _ _ h => h) (by kernel_rfl) (by assumption) ?_ ?_; rotate_left; (focus (intro w hSw; (try dsimp only at hSw); go_simp; (first | done | (with_reducible rfl)))); (try simp only [Act.put, List.setIfInBounds_toArray, List.set_cons_zero, List.set_cons_succ])
  refine tk_yes 9 (v := ?_) rfl (by kernel_rfl) (by kernel_rfl) (by kernel_rfl) (fun _ _ _ h => h) (by kernel_rfl) (by assumption) ?_ ?_; rotate_left; (focus (intro w hSw; (try dsimp only at hSw); go_simp; (first | done | (with_reducible rfl)))); (try simp only [Act.put, List.setIfInBounds_toArray, List.set_cons_zero, List.set_cons_succ])
  refine tk_yes 10 (v := ?_) rfl (by kernel_rfl) (by kernel_rfl) (by kernel_rfl) (fun _ _ _ h => h) (by kernel_rfl) (by assumption) ?_ ?_; rotate_left; (focus (intro w hSw; (try dsimp only at hSw); go_simp; (first | done | (with_reducible rfl)))); (try simp only [Act.put, List.setIfInBounds_toArray, List.set_cons_zero, List.set_cons_succ])
  refine tk_call 11 rfl (by kernel_rfl) (by kernel_rfl) (fun KW hKW => ?_); go_simp; go_at_call 112; refine KC.out.mono ?_; rintro e u7 hcl; have HCL := Lib.hid hcl; obtain ⟨rfl, -⟩ := hcl; have s1 := hAft.out _ HCL.out; refine hKW.out _ _ ?_ (fun hHeld => ?_); (focus ((try dsimp only); first | exact s1 | exact hS)); clear hKW KW; (try simp only [Act.put, List.setIfInBounds_toArray, List.set_cons_zero, List.set_cons_succ])
  refine wpAnyH_done (by kernel_rfl) ?_ _
  go_wp2_with fail
  go_ret
  obtain ⟨-, v', h1, h2, h3⟩ := HCL.out
  have Q7 := HQD.out.step_slots h1 h2
  have e1 : (⟨S.ids, S.gens, S.g.set p (IntKind.i64.wrap (S.g.getD p 0 + 1)), S.O.erase p, S.cl ++ [p], S.fr, PC.dropR 1 S.R1 (p : Int), PC.dropR 64 S.R2 (p : Int), fun z => if z = id then none else S.f z⟩ : QSt) = S.drop id p := rfl
  have hm : Chg (fun j => (∃ i, i < 11 ∧ j = b i) ∨ v.ownBlock = some j) w6.drew u7 := h2.mono (fun j _ hj => by
    rcases hj with rfl | rfl | rfl | hj
    · exact .inl ⟨7, by omega, rfl⟩
    · exact .inl ⟨8, by omega, rfl⟩
    · exact .inl ⟨9, by omega, rfl⟩
    · exact .inr hj)
  have cw : Chg (fun j => (∃ i, i < 11 ∧ j = b i) ∨ v.ownBlock = some j) w w6.drew := C6.out.drewN 1
  refine ⟨rfl, v', e1 ▸ Q7, cw.trans hm, ?_⟩
  · rcases h3 with h3 | ⟨j, h3, h4⟩
    · exact .inl h3
    · exact .inr ⟨j, h3, Nat.le_trans C6.out.size h4⟩
end Go.Proofs.Ytdhcmnbajkpjiaa
/-
  One hypothesis for a queue that a call made.
-/
namespace Go.Proofs.Ytdhcmnbajkpjiaa
open Go.RowKit
open Go.Maps
set_option linter.unusedVariables false
set_option linter.unusedSimpArgs false
attribute [local go_sem] drewN_alloc drewN_setCell

/-- A queue made since w0, of the blocks 'own', with these tickets; all that was there at w0 is as it was. -/
structure QOver (w0 w : World) (own : Nat → Prop) (Qb : Nat) (T : List (Int × Int)) : Prop where
  ex : ∃ B b v S L, b 0 = Qb ∧ QAt B w b v S L.length ∧ QInv S L ∧ tick L = T ∧ (∀ i, i < 11 → own (b i)) ∧ ∀ j, v.ownBlock = some j → own j
  fresh : ∀ k, own k → w0.heap.size ≤ k ∧ k < w.heap.size
  below : Below w0.heap.size w0 w
/-- What a call does that changes the queue. -/
def QStep (w0 w : World) (own : Nat → Prop) (Qb : Nat) (T : List (Int × Int)) (w' : World) : Prop :=
  ∃ own', QOver w0 w' own' Qb T ∧ Chg own w w' ∧ ∀ k, own' k → own k ∨ w.heap.size ≤ k
variable {w0 w w' : World} {own : Nat → Prop} {Qb : Nat} {T : List (Int × Int)}
theorem QOver.keep (h : QOver w0 w own Qb T) (hb : Below w.heap.size w w') : QOver w0 w' own Qb T := by
  obtain ⟨⟨B, b, v, S, L, e0, h1, h2, e1, h3, h4⟩, h5, h6⟩ := h
  exact ⟨⟨B, b, v, S, L, e0, h1.below hb, h2, e1, h3, h4⟩, fun k hk => ⟨(h5 k hk).1, Nat.lt_of_lt_of_le (h5 k hk).2 hb.size⟩, bel_trans h6 hb⟩
theorem QOver.len (h : QOver w0 w own Qb T) : T.length ≤ 256 := by
  obtain ⟨B, b, v, S, L, e0, h1, h2, rfl, h3, h4⟩ := h.ex
  have := h2.len
  simpa [tick] using this
theorem QOver.nodup (h : QOver w0 w own Qb T) : (QT.ids T).Nodup := by
  obtain ⟨B, b, v, S, L, e0, h1, h2, rfl, h3, h4⟩ := h.ex
  rw [tick_ids]
  exact h2.ndi
theorem QOver.ok (h : QOver w0 w own Qb T) : ∀ t ∈ T, 1 ≤ t.1 ∧ BdI t.1 ∧ 0 ≤ t.2 ∧ t.2 < 64 := by
  obtain ⟨B, b, v, S, L, e0, h1, h2, rfl, h3, h4⟩ := h.ex
  intro t ht
  obtain ⟨u, hu, rfl⟩ := List.mem_map.1 ht
  exact h2.ok u hu
theorem qstep_same (h : QOver w0 w own Qb T) (hb : Below w.heap.size w w') : QStep w0 w own Qb T w' := ⟨own, h.keep hb, Chg.of_below hb, fun k hk => .inl hk⟩
theorem q_New (w : World) : Calls Try.prog 56 #[] w fun e w' => ∃ Qb own, e = .returned (.pointer (some ⟨Qb, 0, none⟩)) ∧ QOver w w' own Qb [] := by
  refine (queue_New w).mono ?_
  rintro e w' ⟨b, v, rfl, h1, hb, h2, h3⟩
  refine ⟨b 0, fun k => w.heap.size ≤ k ∧ k < w'.heap.size, rfl, ⟨_, b, v, QSt.none, [], rfl, h1, QInv.none, rfl, fun i hi => ⟨h2 i hi, h1.lt i hi⟩, fun j hj => ?_⟩, fun k hk => hk, hb⟩
  rw [h3] at hj; cases hj
theorem q_Add (id c : Int) (hx : BdI id) (h : QOver w0 w own Qb T) : Calls Try.prog 60 #[.pointer (some ⟨Qb, 0, none⟩), .int .i64 id, .int .i64 c] w fun e w' => e = .returned (.int .i64 (QT.addE T id c)) ∧ QStep w0 w own Qb (QT.add T id c) w' := by
  obtain ⟨B, b, v, S, L, rfl, h1, h2, rfl, h3, h4⟩ := h.ex
  have no : ∀ code : Int, code ≠ 0 → QT.addE (tick L) id c = code → (Calls Try.prog 60 #[.pointer (some ⟨b 0, 0, none⟩), .int .i64 id, .int .i64 c] w fun e w' => e = .returned (.int .i64 code) ∧ Below w.heap.size w w') → Calls Try.prog 60 #[.pointer (some ⟨b 0, 0, none⟩), .int .i64 id, .int .i64 c] w fun e w' => e = .returned (.int .i64 (QT.addE (tick L) id c)) ∧ QStep w0 w own (b 0) (QT.add (tick L) id c) w' := fun code hne hc hh => by
    have e2 : QT.add (tick L) id c = tick L := by unfold QT.add; rw [hc, if_neg hne]
    rw [hc, e2]
    exact hh.mono fun e w' hk => ⟨hk.1, qstep_same h hk.2⟩
  by_cases a1 : id < 1
  · exact no 2 (by omega) (by unfold QT.addE; rw [if_pos (.inl a1)]) (queue_Add_arg1 id c a1 h1)
  by_cases a2 : c < 0
  · exact no 2 (by omega) (by unfold QT.addE; rw [if_pos (.inr (.inl a2))]) (queue_Add_arg2 id c (by omega) a2 h1)
  by_cases a3 : 64 ≤ c
  · exact no 2 (by omega) (by unfold QT.addE; rw [if_pos (.inr (.inr a3))]) (queue_Add_arg3 id c (by omega) (by omega) a3 h1)
  have hneg : ¬ (id < 1 ∨ c < 0 ∨ 64 ≤ c) := by omega
  by_cases a4 : id ∈ QT.ids (tick L)
  · obtain ⟨t, ht, e⟩ := mem_ids.1 a4
    exact no 19 (by omega) (by unfold QT.addE; rw [if_neg hneg, if_pos a4]) (queue_Add_twice id c hx (by omega) (by omega) (by omega) t.2.2 (by rw [← e]; exact h2.find ht) h1)
  have hlost : S.f id = none := h2.lost (by rw [← tick_ids]; exact a4)
  have hlen : (tick L).length = L.length := by simp [tick]
  rcases hp : pickP S.cl S.fr 256 with _ | ⟨p, cl', fr'⟩
  · exact no 10 (by omega) (by unfold QT.addE; rw [if_neg hneg, if_neg a4, if_pos (by rw [hlen]; exact h2.full.1 hp)]) (queue_Add_full id c hx (by omega) (by omega) (by omega) hlost hp h1)
  · have hnf : ¬ 256 ≤ L.length := fun hh => by rw [h2.full.2 hh] at hp; cases hp
    have e1 : QT.addE (tick L) id c = 0 := by unfold QT.addE; rw [if_neg hneg, if_neg a4, if_neg (by rw [hlen]; exact hnf)]
    have e2 : QT.add (tick L) id c = tick (L ++ [(id, c, p)]) := by unfold QT.add; rw [e1, if_pos rfl]; simp [tick]
    rw [e1, e2]
    refine (queue_Add_ok id c L h2 hx (by omega) (by omega) (by omega) hlost hp (by omega) h1).mono ?_
    rintro e w' ⟨rfl, v', q1, q2, q3⟩
    have hc : Chg own w w' := q2.mono (fun j _ hj => by obtain ⟨i, hi, rfl⟩ := hj; exact h3 i hi)
    exact ⟨rfl, own, ⟨⟨B, b, v', _, L ++ [(id, c, p)], rfl, by rw [List.length_append]; exact q1, h2.add hp (by omega) hx (by omega) (by omega) (by rw [← tick_ids]; exact a4), rfl, h3, fun j hj => h4 j (q3 ▸ hj)⟩, fun k hk => ⟨(h.fresh k hk).1, Nat.lt_of_lt_of_le (h.fresh k hk).2 hc.size⟩, h.below.trans (hc.below h.below.size (fun k hk => (h.fresh k hk).1))⟩, hc, fun k hk => .inl hk⟩
theorem q_Drop (id : Int) (hx : BdI id) (h : QOver w0 w own Qb T) : Calls Try.prog 58 #[.pointer (some ⟨Qb, 0, none⟩), .int .i64 id] w fun e w' => e = .returned (.int .i64 (QT.dropE T id)) ∧ QStep w0 w own Qb (QT.drop T id) w' := by
  obtain ⟨B, b, v, S, L, rfl, h1, h2, rfl, h3, h4⟩ := h.ex
  by_cases a : id ∈ QT.ids (tick L)
  · obtain ⟨t, ht, rfl⟩ := mem_ids.1 a
    have e1 : QT.dropE (tick L) t.1 = 0 := by unfold QT.dropE; rw [if_pos a]
    rw [e1, drop_eq]
    refine (queue_Drop_ok L h2 t ht h1).mono ?_
    rintro e w' ⟨rfl, v', q1, q2, q3⟩
    have hc : Chg own w w' := q2.mono (fun j _ hj => by
      rcases hj with ⟨i, hi, rfl⟩ | hj
      · exact h3 i hi
      · exact h4 j hj)
    have hI := h2.drop ht
    have hlen : (L.filter (fun u => decide (u.1 ≠ t.1))).length = L.length - 1 := by
      have k1 := hI.olen
      have k2 := h2.olen
      have hO : t.2.2 ∈ S.O := (h2.mem _).2 (List.mem_map.2 ⟨t, ht, rfl⟩)
      have k3 : (S.drop t.1 t.2.2).O.length = S.O.length - 1 := List.length_erase_of_mem hO
      omega
    have hvl : ∀ k, v'.ownBlock = some k → k < w'.heap.size := fun k hk => (World.ownsRow.lt q1.sl.own k hk).2
    refine ⟨rfl, fun k => own k ∨ (w.heap.size ≤ k ∧ k < w'.heap.size), ⟨⟨B, b, v', _, _, rfl, by rw [hlen]; exact q1, hI, rfl, fun i hi => .inl (h3 i hi), fun j hj => ?_⟩, fun k hk => ?_, h.below.trans (hc.below h.below.size (fun k hk => (h.fresh k hk).1))⟩, hc, fun k hk => hk.imp id And.left⟩
    · rcases q3 with e | ⟨k', e, h5⟩
      · exact .inl (h4 j (e ▸ hj))
      · rw [e] at hj
        cases hj
        exact .inr ⟨h5, hvl _ e⟩
    · rcases hk with hk | hk
      · exact ⟨(h.fresh k hk).1, Nat.lt_of_lt_of_le (h.fresh k hk).2 hc.size⟩
      · exact ⟨Nat.le_trans h.below.size hk.1, hk.2⟩
  · have e1 : QT.dropE (tick L) id = 12 := by unfold QT.dropE; rw [if_neg a]
    have e2 : QT.drop (tick L) id = tick L := by
      unfold QT.drop
      rw [List.filter_eq_self]
      intro t ht
      refine decide_eq_true (fun e => a ?_)
      unfold QT.ids
      exact List.mem_map.2 ⟨t, ht, e⟩
    rw [e1, e2]
    refine (queue_Drop_no id hx (h2.lost (by rw [← tick_ids]; exact a)) h1).mono ?_
    rintro e w' ⟨rfl, rfl⟩
    exact ⟨rfl, qstep_same h (Below.refl _ _)⟩
theorem q_First (h : QOver w0 w own Qb T) : Calls Try.prog 64 #[.pointer (some ⟨Qb, 0, none⟩)] w fun e w' => e = .returned (.int .i64 (QT.first T)) ∧ w = w' := by
  obtain ⟨B, b, v, S, L, rfl, h1, h2, rfl, h3, h4⟩ := h.ex
  have e1 := row1_eq h2
  have K := queue_First h2.il (by rw [e1]; exact head_lt h2 (fun t ht => ht)) h1
  have e2 : idV S (PC.headD (PC.rowV 1 S.R1 0)) = QT.first (tick L) := by
    unfold idV QT.first
    rw [e1, idV_head h2 (fun t ht => ht), tick_ids]
  rwa [e2] at K
theorem q_Head (c : Int) (h : QOver w0 w own Qb T) : Calls Try.prog 66 #[.pointer (some ⟨Qb, 0, none⟩), .int .i64 c] w fun e w' => e = .returned (.int .i64 ((QT.of T c).headD 0)) ∧ w = w' := by
  obtain ⟨B, b, v, S, L, rfl, h1, h2, rfl, h3, h4⟩ := h.ex
  have e1 := row2_eq h2 c
  have hM : ∀ t ∈ L.filter (fun t => decide (t.2.1 = c)), t ∈ L := fun t ht => (List.mem_filter.1 ht).1
  have K := queue_Head c h2.il (by rw [e1]; exact head_lt h2 hM) h1
  have e2 : idV S (PC.headD (PC.rowV 64 S.R2 c)) = (QT.of (tick L) c).headD 0 := by
    unfold idV
    rw [e1, idV_head h2 hM, of_eq]
  rwa [e2] at K
theorem q_Len (h : QOver w0 w own Qb T) : Calls Try.prog 67 #[.pointer (some ⟨Qb, 0, none⟩)] w fun e w' => e = .returned (.int .i64 (T.length : Int)) ∧ w = w' := by
  obtain ⟨B, b, v, S, L, rfl, h1, h2, rfl, h3, h4⟩ := h.ex
  have K := queue_Len h1
  rw [row1_eq h2, List.length_map] at K
  have e : (tick L).length = L.length := by simp [tick]
  rw [e]
  exact K
theorem q_Next (x : Int) (hx : BdI x) (h : QOver w0 w own Qb T) : Calls Try.prog 65 #[.pointer (some ⟨Qb, 0, none⟩), .int .i64 x] w fun e w' => e = .returned (.int .i64 (QT.next T x)) ∧ w = w' := by
  obtain ⟨B, b, v, S, L, rfl, h1, h2, rfl, h3, h4⟩ := h.ex
  by_cases a : x ∈ QT.ids (tick L)
  · obtain ⟨t, ht, rfl⟩ := mem_ids.1 a
    obtain ⟨i, hi, rfl⟩ := List.mem_iff_getElem.1 ht
    have hM : ∀ t ∈ L.drop (i + 1), t ∈ L := fun t ht => List.mem_of_mem_drop ht
    have e1 := next_eq h2 hi
    have K := queue_Next (L[i]).1 (L[i]).2.2 hx (h2.find ht) h2.il (by rw [e1]; exact head_lt h2 hM) h1
    have e2 : idV S (PC.nextV 1 S.R1 (((L[i]).2.2 : Nat) : Int)) = QT.next (tick L) (L[i]).1 := by
      unfold idV QT.next
      rw [if_pos a, e1, idV_head h2 hM, idx_of h2 hi, tick_ids, List.map_drop]
    rwa [e2] at K
  · have e : QT.next (tick L) x = 0 := by unfold QT.next; rw [if_neg a]
    rw [e]
    exact queue_Next_no x hx (h2.lost (by rw [← tick_ids]; exact a)) h1
theorem q_Client (x : Int) (hx : BdI x) (h : QOver w0 w own Qb T) : Calls Try.prog 69 #[.pointer (some ⟨Qb, 0, none⟩), .int .i64 x] w fun e w' => e = .returned (.int .i64 (QT.client T x)) ∧ w = w' := by
  obtain ⟨B, b, v, S, L, rfl, h1, h2, rfl, h3, h4⟩ := h.ex
  by_cases a : x ∈ QT.ids (tick L)
  · obtain ⟨t, ht, rfl⟩ := mem_ids.1 a
    have K := queue_Client t.1 t.2.2 hx (h2.find ht) h1
    have e2 : PC.ofV 64 S.R2 ((t.2.2 : Nat) : Int) = QT.client (tick L) t.1 := by
      unfold PC.ofV
      rw [h2.row2_of ht, client_eq h2 ht]
      have := (h2.ok t ht).2.2.1
      show ((t.2.1.toNat : Nat) : Int) = t.2.1
      omega
    rwa [e2] at K
  · rw [client_no a]
    exact queue_Client_no x hx (h2.lost (by rw [← tick_ids]; exact a)) h1
theorem q_Ahead (x : Int) (hx : BdI x) (h : QOver w0 w own Qb T) : Calls Try.prog 68 #[.pointer (some ⟨Qb, 0, none⟩), .int .i64 x] w fun e w' => e = .returned (.int .i64 (QT.place T x)) ∧ w = w' := by
  obtain ⟨B, b, v, S, L, rfl, h1, h2, rfl, h3, h4⟩ := h.ex
  by_cases a : x ∈ QT.ids (tick L)
  · obtain ⟨t, ht, rfl⟩ := mem_ids.1 a
    obtain ⟨i, hi, rfl⟩ := List.mem_iff_getElem.1 ht
    have e2 : QT.place (tick L) (L[i]).1 = (i : Int) := by
      unfold QT.place
      rw [if_pos a, idx_of h2 hi]
    rw [e2]
    exact queue_Ahead (L[i]).1 i _ h2.r1 h2.nd (by simpa using hi) (L[i]).2.2 (by simp) (by simpa using h2.len) hx (h2.find ht) h1
  · have e : QT.place (tick L) x = -1 := by unfold QT.place; rw [if_neg a]
    rw [e]
    exact queue_Ahead_no x hx (h2.lost (by rw [← tick_ids]; exact a)) h1
theorem q_List (h : QOver w0 w own Qb T) : Calls Try.prog 62 #[.pointer (some ⟨Qb, 0, none⟩)] w (GivesInts w (QT.ids T)) := by
  obtain ⟨B, b, v, S, L, rfl, h1, h2, rfl, h3, h4⟩ := h.ex
  have e1 := row1_eq h2
  have K := queue_List (by rw [e1]; exact fun p hp => by obtain ⟨t, ht, rfl⟩ := List.mem_map.1 hp; exact h2.node_lt ht) (by rw [e1, List.length_map]; exact h2.len) h2.il h1
  have e2 : idsOf S (PC.rowV 1 S.R1 0) = QT.ids (tick L) := by
    unfold idsOf
    rw [e1, ids_of h2 (fun t ht => ht), tick_ids]
  rwa [e2] at K
theorem q_Of (c : Int) (h : QOver w0 w own Qb T) : Calls Try.prog 63 #[.pointer (some ⟨Qb, 0, none⟩), .int .i64 c] w (GivesInts w (QT.of T c)) := by
  obtain ⟨B, b, v, S, L, rfl, h1, h2, rfl, h3, h4⟩ := h.ex
  have e1 := row2_eq h2 c
  have hM : ∀ t ∈ L.filter (fun t => decide (t.2.1 = c)), t ∈ L := fun t ht => (List.mem_filter.1 ht).1
  have K := queue_Of c (by rw [e1]; exact fun p hp => by obtain ⟨t, ht, rfl⟩ := List.mem_map.1 hp; exact h2.node_lt (hM t ht)) (by rw [e1, List.length_map]; exact Nat.le_trans (List.length_filter_le _ _) h2.len) h2.il h1
  have e2 : idsOf S (PC.rowV 64 S.R2 c) = QT.of (tick L) c := by
    unfold idsOf
    rw [e1, ids_of h2 hM, of_eq]
  rwa [e2] at K
end Go.Proofs.Ytdhcmnbajkpjiaa
/-
  Chapter 33: a queue and the reference's tickets tell the same.
-/
namespace Go.Proofs.Ytdhcmnbajkpjiaa
open Go.RowKit
open Go.Maps
set_option linter.unusedVariables false
set_option linter.unusedSimpArgs false
attribute [local go_sem] drewN_alloc drewN_setCell

variable {P : Nat → Prop} {w0 w w' : World} {own : Nat → Prop} {Qb : Nat} {A : Option Addr} {n c : Nat} {T : List (Int × Int)}
theorem client_idx (hn : (QT.ids T).Nodup) {x : Int} {k : Nat} (hk : k < T.length) (e : (T[k]).1 = x) : (T[k]).2 = QT.client T x := by
  unfold QT.client
  rcases hf : T.find? (fun t => decide (t.1 = x)) with _ | u
  · rw [List.find?_eq_none] at hf
    exact absurd (hf _ (List.getElem_mem hk)) (by simp [e])
  · have h1 := List.mem_of_find?_eq_some hf
    have h2 := List.find?_some hf
    simp only [decide_eq_true_eq] at h2
    have : u = T[k] := map_uniq (f := fun t : Int × Int => t.1) hn h1 (List.getElem_mem hk) (h2.trans e.symm)
    rw [hf, this]
set_option maxRecDepth 100000 in
set_option maxHeartbeats 4000000 in
theorem law33_same_inpos (id cl : Int) (hb : BdI id) (hin : id ∈ QT.ids T) (hcl : 0 ≤ cl) (h : QOver w0 w own Qb T) (ht : TAt P w A n c T) : Calls Try.prog 61 #[.pointer (some ⟨Qb, 0, none⟩), .slice A n c, .int .i64 id, .int .i64 cl] w fun e w' => e = .returned (.bool true) ∧ Below w.heap.size w w' := by
  have hl := ht.1
  have hlen := h.len
  have hn : n ≤ 256 := by omega
  have H := Lib.hid h
  have HT := Lib.hid ht
  have KP := Lib.hid (ref33_Place id ht)
  obtain ⟨pv, hpv⟩ : ∃ p, QT.place T id = p := ⟨_, rfl⟩
  rw [hpv] at KP
  have KA : Hid (∀ W, Below w.heap.size w W → Calls Try.prog 68 #[.pointer (some ⟨Qb, 0, none⟩), .int .i64 id] W fun e w' => e = .returned (.int .i64 pv) ∧ W = w') := Lib.hid (fun W hW => by
    have := q_Ahead id hb (H.out.keep hW)
    rwa [hpv] at this)
  obtain ⟨cv, hcv⟩ : ∃ p, QT.client T id = p := ⟨_, rfl⟩
  have KC : Hid (∀ W, Below w.heap.size w W → Calls Try.prog 69 #[.pointer (some ⟨Qb, 0, none⟩), .int .i64 id] W fun e w' => e = .returned (.int .i64 cv) ∧ W = w') := Lib.hid (fun W hW => by
    have := q_Client id hb (H.out.keep hW)
    rwa [hcv] at this)
  obtain ⟨nv, hnv⟩ : ∃ p, QT.next T id = p := ⟨_, rfl⟩
  have KN : Hid (∀ W, Below w.heap.size w W → Calls Try.prog 65 #[.pointer (some ⟨Qb, 0, none⟩), .int .i64 id] W fun e w' => e = .returned (.int .i64 nv) ∧ W = w') := Lib.hid (fun W hW => by
    have := q_Next id hb (H.out.keep hW)
    rwa [hnv] at this)
  have KM : Hid (∀ W, Below w.heap.size w W → Calls Try.prog 129 #[.slice A n c, .int .i64 id] W fun e w' => e = .returned (.int .i64 nv) ∧ W = w') := Lib.hid (fun W hW => by
    have := ref33_Next id (HT.out.keep hW) (by omega)
    rwa [hnv] at this)
  have KF : Hid (∀ W, Below w.heap.size w W → Calls Try.prog 64 #[.pointer (some ⟨Qb, 0, none⟩)] W fun e w' => e = .returned (.int .i64 ((QT.ids T).headD 0)) ∧ W = w') := Lib.hid (fun W hW => q_First (H.out.keep hW))
  have KH : Hid (∀ W, Below w.heap.size w W → Calls Try.prog 66 #[.pointer (some ⟨Qb, 0, none⟩), .int .i64 cl] W fun e w' => e = .returned (.int .i64 ((QT.of T cl).headD 0)) ∧ W = w') := Lib.hid (fun W hW => q_Head cl (H.out.keep hW))
  have KL : Hid (∀ W, Below w.heap.size w W → Calls Try.prog 62 #[.pointer (some ⟨Qb, 0, none⟩)] W (GivesInts W (QT.ids T))) := Lib.hid (fun W hW => q_List (H.out.keep hW))
  have KO : Hid (∀ W, Below w.heap.size w W → Calls Try.prog 63 #[.pointer (some ⟨Qb, 0, none⟩), .int .i64 cl] W (GivesInts W (QT.of T cl))) := Lib.hid (fun W hW => q_Of cl (H.out.keep hW))
  have KE : Hid (∀ W, Below w.heap.size w W → Calls Try.prog 67 #[.pointer (some ⟨Qb, 0, none⟩)] W fun e w' => e = .returned (.int .i64 (n : Int)) ∧ W = w') := Lib.hid (fun W hW => by
    have := q_Len (H.out.keep hW)
    rwa [hl] at this)
  have RA : Hid (∀ W, Below w.heap.size w W → Calls Try.prog 128 #[.slice A n c, .int .i64 (-1)] W (GivesInts W (QT.ids T))) := Lib.hid (fun W hW => ref33_Of_all (by omega) (HT.out.keep hW))
  have RO : Hid (∀ W, Below w.heap.size w W → Calls Try.prog 128 #[.slice A n c, .int .i64 cl] W (GivesInts W (QT.of T cl))) := Lib.hid (fun W hW => ref33_Of_one cl (by omega) (by omega) (HT.out.keep hW))
  have hil := List.idxOf_lt_length_iff.2 hin
  obtain ⟨k, hk⟩ : ∃ k, (QT.ids T).idxOf id = k := ⟨_, rfl⟩
  have hidl : (QT.ids T).length = T.length := by simp [QT.ids]
  have hkl : k < T.length := by omega
  have e1 : (T[k]).1 = id := by
    have e : (QT.ids T)[(QT.ids T).idxOf id] = id := List.getElem_idxOf hil
    subst hk
    exact (ids_get hkl hil).symm.trans e
  have e2 := client_idx h.nodup hkl e1
  rw [hcv] at e2
  obtain ⟨b, off, rfl, hbb, -, y0⟩ := ht.at hkl
  rw [e2] at y0
  obtain rfl : pv = (k : Int) := by rw [← hpv]; unfold QT.place; rw [if_pos hin, hk]
  have g0 : (0 : Int) ≤ (k : Int) := by omega
  have g1 : (k : Int) < (n : Int) := by omega
  have g2 : decide ((0 : Int) ≤ (k : Int)) = true := decide_eq_true g0
  clear hil hk hidl hkl e1 e2 hbb
  have q1 : decide ((0 : Int) ≤ cl) = true := decide_eq_true hcl
  clear h ht hb hin hpv hcv hnv hl hlen hn
  obtain ⟨L1, hL1⟩ : ∃ l, QT.ids T = l := ⟨_, rfl⟩
  rw [hL1] at KF KL RA
  obtain ⟨L2, hL2⟩ : ∃ l, QT.of T cl = l := ⟨_, rfl⟩
  rw [hL2] at KH KO RO
  clear hL1 hL2
  go_enter Try.func61, Try.ntmps61
  go_wp2_with fail
  refine KP.out.mono ?_
  rintro e w1 ⟨rfl, rfl⟩
  go_wp2_with fail
  refine (RO.out _ (Below.refl _ _)).mono ?_
  rintro e w1 ⟨A1, n1, c1, rfl, i1, b1⟩
  have I1 := Lib.hid i1.1
  clear i1
  go_wp2_with fail
  refine (RA.out _ b1).mono ?_
  rintro e w2 ⟨A2, n2, c2, rfl, i2, b2⟩
  have B2 := bel_trans b1 b2
  have I2 := Lib.hid i2.1
  have I1b := Lib.hid (I1.out.keep b2)
  clear i2 b2 b1
  go_wp2_with fail
  refine (KA.out _ B2).mono ?_
  rintro e w9 ⟨rfl, rfl⟩
  go_wp2_with fail
  refine (KC.out _ B2).mono ?_
  rintro e w9 ⟨rfl, rfl⟩
  go_wp2_with fail
  refine (KN.out _ B2).mono ?_
  rintro e w9 ⟨rfl, rfl⟩
  go_wp2_with fail
  refine (KM.out _ B2).mono ?_
  rintro e w9 ⟨rfl, rfl⟩
  go_wp2_with fail
  refine (KF.out _ B2).mono ?_
  rintro e w9 ⟨rfl, rfl⟩
  go_wp2_with fail
  refine (ref33_First I2.out).mono ?_
  rintro e w9 ⟨rfl, rfl⟩
  go_wp2_with fail
  refine (KH.out _ B2).mono ?_
  rintro e w9 ⟨rfl, rfl⟩
  go_wp2_with fail
  refine (ref33_First I1b.out).mono ?_
  rintro e w9 ⟨rfl, rfl⟩
  go_wp2_with fail
  refine (KL.out _ B2).mono ?_
  rintro e w3 ⟨A3, n3, c3, rfl, i3, b3⟩
  have B3 := bel_trans B2 b3
  have I3 := Lib.hid i3.1
  have I2c := Lib.hid (I2.out.keep b3)
  have I1c := Lib.hid (I1b.out.keep b3)
  clear i3 b3
  go_wp2_with fail
  refine (base_SameInts c3 c2 I3.out I2c.out).mono ?_
  rw [decide_eq_true rfl]
  rintro e w4 ⟨rfl, b4⟩
  have B4 := bel_trans B3 b4
  have I1d := Lib.hid (I1c.out.keep b4)
  clear b4
  go_wp2_with fail
  refine (KO.out _ B4).mono ?_
  rintro e w5 ⟨A5, n5, c5, rfl, i5, b5⟩
  have B5 := bel_trans B4 b5
  have I5 := Lib.hid i5.1
  have I1e := Lib.hid (I1d.out.keep b5)
  clear i5 b5
  go_wp2_with fail
  refine (base_SameInts c5 c1 I5.out I1e.out).mono ?_
  rw [decide_eq_true rfl]
  rintro e w6 ⟨rfl, b6⟩
  have B6 := bel_trans B5 b6
  clear b6
  go_wp2_with fail
  refine (KE.out _ B6).mono ?_
  rintro e w9 ⟨rfl, rfl⟩
  go_wp2_with fail
  go_ret
  exact ⟨rfl, B6⟩
set_option maxRecDepth 100000 in
set_option maxHeartbeats 4000000 in
theorem law33_same_inneg (id cl : Int) (hb : BdI id) (hin : id ∈ QT.ids T) (hcl : cl < 0) (h : QOver w0 w own Qb T) (ht : TAt P w A n c T) : Calls Try.prog 61 #[.pointer (some ⟨Qb, 0, none⟩), .slice A n c, .int .i64 id, .int .i64 cl] w fun e w' => e = .returned (.bool true) ∧ Below w.heap.size w w' := by
  have hl := ht.1
  have hlen := h.len
  have hn : n ≤ 256 := by omega
  have H := Lib.hid h
  have HT := Lib.hid ht
  have KP := Lib.hid (ref33_Place id ht)
  obtain ⟨pv, hpv⟩ : ∃ p, QT.place T id = p := ⟨_, rfl⟩
  rw [hpv] at KP
  have KA : Hid (∀ W, Below w.heap.size w W → Calls Try.prog 68 #[.pointer (some ⟨Qb, 0, none⟩), .int .i64 id] W fun e w' => e = .returned (.int .i64 pv) ∧ W = w') := Lib.hid (fun W hW => by
    have := q_Ahead id hb (H.out.keep hW)
    rwa [hpv] at this)
  obtain ⟨cv, hcv⟩ : ∃ p, QT.client T id = p := ⟨_, rfl⟩
  have KC : Hid (∀ W, Below w.heap.size w W → Calls Try.prog 69 #[.pointer (some ⟨Qb, 0, none⟩), .int .i64 id] W fun e w' => e = .returned (.int .i64 cv) ∧ W = w') := Lib.hid (fun W hW => by
    have := q_Client id hb (H.out.keep hW)
    rwa [hcv] at this)
  obtain ⟨nv, hnv⟩ : ∃ p, QT.next T id = p := ⟨_, rfl⟩
  have KN : Hid (∀ W, Below w.heap.size w W → Calls Try.prog 65 #[.pointer (some ⟨Qb, 0, none⟩), .int .i64 id] W fun e w' => e = .returned (.int .i64 nv) ∧ W = w') := Lib.hid (fun W hW => by
    have := q_Next id hb (H.out.keep hW)
    rwa [hnv] at this)
  have KM : Hid (∀ W, Below w.heap.size w W → Calls Try.prog 129 #[.slice A n c, .int .i64 id] W fun e w' => e = .returned (.int .i64 nv) ∧ W = w') := Lib.hid (fun W hW => by
    have := ref33_Next id (HT.out.keep hW) (by omega)
    rwa [hnv] at this)
  have KF : Hid (∀ W, Below w.heap.size w W → Calls Try.prog 64 #[.pointer (some ⟨Qb, 0, none⟩)] W fun e w' => e = .returned (.int .i64 ((QT.ids T).headD 0)) ∧ W = w') := Lib.hid (fun W hW => q_First (H.out.keep hW))
  have KH : Hid (∀ W, Below w.heap.size w W → Calls Try.prog 66 #[.pointer (some ⟨Qb, 0, none⟩), .int .i64 cl] W fun e w' => e = .returned (.int .i64 ((QT.of T cl).headD 0)) ∧ W = w') := Lib.hid (fun W hW => q_Head cl (H.out.keep hW))
  have KL : Hid (∀ W, Below w.heap.size w W → Calls Try.prog 62 #[.pointer (some ⟨Qb, 0, none⟩)] W (GivesInts W (QT.ids T))) := Lib.hid (fun W hW => q_List (H.out.keep hW))
  have KO : Hid (∀ W, Below w.heap.size w W → Calls Try.prog 63 #[.pointer (some ⟨Qb, 0, none⟩), .int .i64 cl] W (GivesInts W (QT.of T cl))) := Lib.hid (fun W hW => q_Of cl (H.out.keep hW))
  have KE : Hid (∀ W, Below w.heap.size w W → Calls Try.prog 67 #[.pointer (some ⟨Qb, 0, none⟩)] W fun e w' => e = .returned (.int .i64 (n : Int)) ∧ W = w') := Lib.hid (fun W hW => by
    have := q_Len (H.out.keep hW)
    rwa [hl] at this)
  have RA : Hid (∀ W, Below w.heap.size w W → Calls Try.prog 128 #[.slice A n c, .int .i64 (-1)] W (GivesInts W (QT.ids T))) := Lib.hid (fun W hW => ref33_Of_all (by omega) (HT.out.keep hW))
  have HNO : Hid ([] = QT.of T cl) := Lib.hid (by
    unfold QT.of
    have : T.filter (fun t => decide (t.2 = cl)) = [] := by
      rw [List.filter_eq_nil_iff]
      intro t ht e
      have h1 := (H.out.ok t ht).2.2.1
      have e' : t.2 = cl := of_decide_eq_true e
      omega
    rw [this]; rfl)
  have hil := List.idxOf_lt_length_iff.2 hin
  obtain ⟨k, hk⟩ : ∃ k, (QT.ids T).idxOf id = k := ⟨_, rfl⟩
  have hidl : (QT.ids T).length = T.length := by simp [QT.ids]
  have hkl : k < T.length := by omega
  have e1 : (T[k]).1 = id := by
    have e : (QT.ids T)[(QT.ids T).idxOf id] = id := List.getElem_idxOf hil
    subst hk
    exact (ids_get hkl hil).symm.trans e
  have e2 := client_idx h.nodup hkl e1
  rw [hcv] at e2
  obtain ⟨b, off, rfl, hbb, -, y0⟩ := ht.at hkl
  rw [e2] at y0
  obtain rfl : pv = (k : Int) := by rw [← hpv]; unfold QT.place; rw [if_pos hin, hk]
  have g0 : (0 : Int) ≤ (k : Int) := by omega
  have g1 : (k : Int) < (n : Int) := by omega
  have g2 : decide ((0 : Int) ≤ (k : Int)) = true := decide_eq_true g0
  clear hil hk hidl hkl e1 e2 hbb
  have q1 : decide ((0 : Int) ≤ cl) = false := decide_eq_false (by omega)
  clear h ht hb hin hpv hcv hnv hl hlen hn
  obtain ⟨L1, hL1⟩ : ∃ l, QT.ids T = l := ⟨_, rfl⟩
  rw [hL1] at KF KL RA
  obtain ⟨L2, hL2⟩ : ∃ l, QT.of T cl = l := ⟨_, rfl⟩
  rw [hL2] at KH KO HNO
  clear hL1 hL2
  go_enter Try.func61, Try.ntmps61
  go_wp2_with fail
  refine KP.out.mono ?_
  rintro e w1 ⟨rfl, rfl⟩
  go_wp2_with fail
  have b1 : Below w.heap.size w w := Below.refl _ _
  have I1 : Hid (IntsAt w none 0 L2) := Lib.hid (by rw [← HNO.out]; exact IntsAt.nil)
  refine (RA.out _ b1).mono ?_
  rintro e w2 ⟨A2, n2, c2, rfl, i2, b2⟩
  have B2 := bel_trans b1 b2
  have I2 := Lib.hid i2.1
  have I1b := Lib.hid (I1.out.keep b2)
  clear i2 b2 b1
  go_wp2_with fail
  refine (KA.out _ B2).mono ?_
  rintro e w9 ⟨rfl, rfl⟩
  go_wp2_with fail
  refine (KC.out _ B2).mono ?_
  rintro e w9 ⟨rfl, rfl⟩
  go_wp2_with fail
  refine (KN.out _ B2).mono ?_
  rintro e w9 ⟨rfl, rfl⟩
  go_wp2_with fail
  refine (KM.out _ B2).mono ?_
  rintro e w9 ⟨rfl, rfl⟩
  go_wp2_with fail
  refine (KF.out _ B2).mono ?_
  rintro e w9 ⟨rfl, rfl⟩
  go_wp2_with fail
  refine (ref33_First I2.out).mono ?_
  rintro e w9 ⟨rfl, rfl⟩
  go_wp2_with fail
  refine (KH.out _ B2).mono ?_
  rintro e w9 ⟨rfl, rfl⟩
  go_wp2_with fail
  refine (ref33_First I1b.out).mono ?_
  rintro e w9 ⟨rfl, rfl⟩
  go_wp2_with fail
  refine (KL.out _ B2).mono ?_
  rintro e w3 ⟨A3, n3, c3, rfl, i3, b3⟩
  have B3 := bel_trans B2 b3
  have I3 := Lib.hid i3.1
  have I2c := Lib.hid (I2.out.keep b3)
  have I1c := Lib.hid (I1b.out.keep b3)
  clear i3 b3
  go_wp2_with fail
  refine (base_SameInts c3 c2 I3.out I2c.out).mono ?_
  rw [decide_eq_true rfl]
  rintro e w4 ⟨rfl, b4⟩
  have B4 := bel_trans B3 b4
  have I1d := Lib.hid (I1c.out.keep b4)
  clear b4
  go_wp2_with fail
  refine (KO.out _ B4).mono ?_
  rintro e w5 ⟨A5, n5, c5, rfl, i5, b5⟩
  have B5 := bel_trans B4 b5
  have I5 := Lib.hid i5.1
  have I1e := Lib.hid (I1d.out.keep b5)
  clear i5 b5
  go_wp2_with fail
  refine (base_SameInts c5 0 I5.out I1e.out).mono ?_
  rw [decide_eq_true rfl]
  rintro e w6 ⟨rfl, b6⟩
  have B6 := bel_trans B5 b6
  clear b6
  go_wp2_with fail
  refine (KE.out _ B6).mono ?_
  rintro e w9 ⟨rfl, rfl⟩
  go_wp2_with fail
  go_ret
  exact ⟨rfl, B6⟩
set_option maxRecDepth 100000 in
set_option maxHeartbeats 4000000 in
theorem law33_same_outpos (id cl : Int) (hb : BdI id) (hin : id ∉ QT.ids T) (hcl : 0 ≤ cl) (h : QOver w0 w own Qb T) (ht : TAt P w A n c T) : Calls Try.prog 61 #[.pointer (some ⟨Qb, 0, none⟩), .slice A n c, .int .i64 id, .int .i64 cl] w fun e w' => e = .returned (.bool true) ∧ Below w.heap.size w w' := by
  have hl := ht.1
  have hlen := h.len
  have hn : n ≤ 256 := by omega
  have H := Lib.hid h
  have HT := Lib.hid ht
  have KP := Lib.hid (ref33_Place id ht)
  obtain ⟨pv, hpv⟩ : ∃ p, QT.place T id = p := ⟨_, rfl⟩
  rw [hpv] at KP
  have KA : Hid (∀ W, Below w.heap.size w W → Calls Try.prog 68 #[.pointer (some ⟨Qb, 0, none⟩), .int .i64 id] W fun e w' => e = .returned (.int .i64 pv) ∧ W = w') := Lib.hid (fun W hW => by
    have := q_Ahead id hb (H.out.keep hW)
    rwa [hpv] at this)
  obtain ⟨cv, hcv⟩ : ∃ p, QT.client T id = p := ⟨_, rfl⟩
  have KC : Hid (∀ W, Below w.heap.size w W → Calls Try.prog 69 #[.pointer (some ⟨Qb, 0, none⟩), .int .i64 id] W fun e w' => e = .returned (.int .i64 cv) ∧ W = w') := Lib.hid (fun W hW => by
    have := q_Client id hb (H.out.keep hW)
    rwa [hcv] at this)
  obtain ⟨nv, hnv⟩ : ∃ p, QT.next T id = p := ⟨_, rfl⟩
  have KN : Hid (∀ W, Below w.heap.size w W → Calls Try.prog 65 #[.pointer (some ⟨Qb, 0, none⟩), .int .i64 id] W fun e w' => e = .returned (.int .i64 nv) ∧ W = w') := Lib.hid (fun W hW => by
    have := q_Next id hb (H.out.keep hW)
    rwa [hnv] at this)
  have KM : Hid (∀ W, Below w.heap.size w W → Calls Try.prog 129 #[.slice A n c, .int .i64 id] W fun e w' => e = .returned (.int .i64 nv) ∧ W = w') := Lib.hid (fun W hW => by
    have := ref33_Next id (HT.out.keep hW) (by omega)
    rwa [hnv] at this)
  have KF : Hid (∀ W, Below w.heap.size w W → Calls Try.prog 64 #[.pointer (some ⟨Qb, 0, none⟩)] W fun e w' => e = .returned (.int .i64 ((QT.ids T).headD 0)) ∧ W = w') := Lib.hid (fun W hW => q_First (H.out.keep hW))
  have KH : Hid (∀ W, Below w.heap.size w W → Calls Try.prog 66 #[.pointer (some ⟨Qb, 0, none⟩), .int .i64 cl] W fun e w' => e = .returned (.int .i64 ((QT.of T cl).headD 0)) ∧ W = w') := Lib.hid (fun W hW => q_Head cl (H.out.keep hW))
  have KL : Hid (∀ W, Below w.heap.size w W → Calls Try.prog 62 #[.pointer (some ⟨Qb, 0, none⟩)] W (GivesInts W (QT.ids T))) := Lib.hid (fun W hW => q_List (H.out.keep hW))
  have KO : Hid (∀ W, Below w.heap.size w W → Calls Try.prog 63 #[.pointer (some ⟨Qb, 0, none⟩), .int .i64 cl] W (GivesInts W (QT.of T cl))) := Lib.hid (fun W hW => q_Of cl (H.out.keep hW))
  have KE : Hid (∀ W, Below w.heap.size w W → Calls Try.prog 67 #[.pointer (some ⟨Qb, 0, none⟩)] W fun e w' => e = .returned (.int .i64 (n : Int)) ∧ W = w') := Lib.hid (fun W hW => by
    have := q_Len (H.out.keep hW)
    rwa [hl] at this)
  have RA : Hid (∀ W, Below w.heap.size w W → Calls Try.prog 128 #[.slice A n c, .int .i64 (-1)] W (GivesInts W (QT.ids T))) := Lib.hid (fun W hW => ref33_Of_all (by omega) (HT.out.keep hW))
  have RO : Hid (∀ W, Below w.heap.size w W → Calls Try.prog 128 #[.slice A n c, .int .i64 cl] W (GivesInts W (QT.of T cl))) := Lib.hid (fun W hW => ref33_Of_one cl (by omega) (by omega) (HT.out.keep hW))
  obtain rfl : pv = -1 := by rw [← hpv]; unfold QT.place; rw [if_neg hin]
  obtain rfl : cv = -1 := by
    rw [← hcv]
    unfold QT.client
    have : T.find? (fun t => decide (t.1 = id)) = none := by
      rw [List.find?_eq_none]
      intro u hu e
      simp only [decide_eq_true_eq] at e
      exact hin (List.mem_map.2 ⟨u, hu, e⟩)
    rw [this]
  have q1 : decide ((0 : Int) ≤ cl) = true := decide_eq_true hcl
  clear h ht hb hin hpv hcv hnv hl hlen hn
  obtain ⟨L1, hL1⟩ : ∃ l, QT.ids T = l := ⟨_, rfl⟩
  rw [hL1] at KF KL RA
  obtain ⟨L2, hL2⟩ : ∃ l, QT.of T cl = l := ⟨_, rfl⟩
  rw [hL2] at KH KO RO
  clear hL1 hL2
  go_enter Try.func61, Try.ntmps61
  go_wp2_with fail
  refine KP.out.mono ?_
  rintro e w1 ⟨rfl, rfl⟩
  go_wp2_with fail
  refine (RO.out _ (Below.refl _ _)).mono ?_
  rintro e w1 ⟨A1, n1, c1, rfl, i1, b1⟩
  have I1 := Lib.hid i1.1
  clear i1
  go_wp2_with fail
  refine (RA.out _ b1).mono ?_
  rintro e w2 ⟨A2, n2, c2, rfl, i2, b2⟩
  have B2 := bel_trans b1 b2
  have I2 := Lib.hid i2.1
  have I1b := Lib.hid (I1.out.keep b2)
  clear i2 b2 b1
  go_wp2_with fail
  refine (KA.out _ B2).mono ?_
  rintro e w9 ⟨rfl, rfl⟩
  go_wp2_with fail
  refine (KC.out _ B2).mono ?_
  rintro e w9 ⟨rfl, rfl⟩
  go_wp2_with fail
  refine (KN.out _ B2).mono ?_
  rintro e w9 ⟨rfl, rfl⟩
  go_wp2_with fail
  refine (KM.out _ B2).mono ?_
  rintro e w9 ⟨rfl, rfl⟩
  go_wp2_with fail
  refine (KF.out _ B2).mono ?_
  rintro e w9 ⟨rfl, rfl⟩
  go_wp2_with fail
  refine (ref33_First I2.out).mono ?_
  rintro e w9 ⟨rfl, rfl⟩
  go_wp2_with fail
  refine (KH.out _ B2).mono ?_
  rintro e w9 ⟨rfl, rfl⟩
  go_wp2_with fail
  refine (ref33_First I1b.out).mono ?_
  rintro e w9 ⟨rfl, rfl⟩
  go_wp2_with fail
  refine (KL.out _ B2).mono ?_
  rintro e w3 ⟨A3, n3, c3, rfl, i3, b3⟩
  have B3 := bel_trans B2 b3
  have I3 := Lib.hid i3.1
  have I2c := Lib.hid (I2.out.keep b3)
  have I1c := Lib.hid (I1b.out.keep b3)
  clear i3 b3
  go_wp2_with fail
  refine (base_SameInts c3 c2 I3.out I2c.out).mono ?_
  rw [decide_eq_true rfl]
  rintro e w4 ⟨rfl, b4⟩
  have B4 := bel_trans B3 b4
  have I1d := Lib.hid (I1c.out.keep b4)
  clear b4
  go_wp2_with fail
  refine (KO.out _ B4).mono ?_
  rintro e w5 ⟨A5, n5, c5, rfl, i5, b5⟩
  have B5 := bel_trans B4 b5
  have I5 := Lib.hid i5.1
  have I1e := Lib.hid (I1d.out.keep b5)
  clear i5 b5
  go_wp2_with fail
  refine (base_SameInts c5 c1 I5.out I1e.out).mono ?_
  rw [decide_eq_true rfl]
  rintro e w6 ⟨rfl, b6⟩
  have B6 := bel_trans B5 b6
  clear b6
  go_wp2_with fail
  refine (KE.out _ B6).mono ?_
  rintro e w9 ⟨rfl, rfl⟩
  go_wp2_with fail
  go_ret
  exact ⟨rfl, B6⟩
set_option maxRecDepth 100000 in
set_option maxHeartbeats 4000000 in
theorem law33_same_outneg (id cl : Int) (hb : BdI id) (hin : id ∉ QT.ids T) (hcl : cl < 0) (h : QOver w0 w own Qb T) (ht : TAt P w A n c T) : Calls Try.prog 61 #[.pointer (some ⟨Qb, 0, none⟩), .slice A n c, .int .i64 id, .int .i64 cl] w fun e w' => e = .returned (.bool true) ∧ Below w.heap.size w w' := by
  have hl := ht.1
  have hlen := h.len
  have hn : n ≤ 256 := by omega
  have H := Lib.hid h
  have HT := Lib.hid ht
  have KP := Lib.hid (ref33_Place id ht)
  obtain ⟨pv, hpv⟩ : ∃ p, QT.place T id = p := ⟨_, rfl⟩
  rw [hpv] at KP
  have KA : Hid (∀ W, Below w.heap.size w W → Calls Try.prog 68 #[.pointer (some ⟨Qb, 0, none⟩), .int .i64 id] W fun e w' => e = .returned (.int .i64 pv) ∧ W = w') := Lib.hid (fun W hW => by
    have := q_Ahead id hb (H.out.keep hW)
    rwa [hpv] at this)
  obtain ⟨cv, hcv⟩ : ∃ p, QT.client T id = p := ⟨_, rfl⟩
  have KC : Hid (∀ W, Below w.heap.size w W → Calls Try.prog 69 #[.pointer (some ⟨Qb, 0, none⟩), .int .i64 id] W fun e w' => e = .returned (.int .i64 cv) ∧ W = w') := Lib.hid (fun W hW => by
    have := q_Client id hb (H.out.keep hW)
    rwa [hcv] at this)
  obtain ⟨nv, hnv⟩ : ∃ p, QT.next T id = p := ⟨_, rfl⟩
  have KN : Hid (∀ W, Below w.heap.size w W → Calls Try.prog 65 #[.pointer (some ⟨Qb, 0, none⟩), .int .i64 id] W fun e w' => e = .returned (.int .i64 nv) ∧ W = w') := Lib.hid (fun W hW => by
    have := q_Next id hb (H.out.keep hW)
    rwa [hnv] at this)
  have KM : Hid (∀ W, Below w.heap.size w W → Calls Try.prog 129 #[.slice A n c, .int .i64 id] W fun e w' => e = .returned (.int .i64 nv) ∧ W = w') := Lib.hid (fun W hW => by
    have := ref33_Next id (HT.out.keep hW) (by omega)
    rwa [hnv] at this)
  have KF : Hid (∀ W, Below w.heap.size w W → Calls Try.prog 64 #[.pointer (some ⟨Qb, 0, none⟩)] W fun e w' => e = .returned (.int .i64 ((QT.ids T).headD 0)) ∧ W = w') := Lib.hid (fun W hW => q_First (H.out.keep hW))
  have KH : Hid (∀ W, Below w.heap.size w W → Calls Try.prog 66 #[.pointer (some ⟨Qb, 0, none⟩), .int .i64 cl] W fun e w' => e = .returned (.int .i64 ((QT.of T cl).headD 0)) ∧ W = w') := Lib.hid (fun W hW => q_Head cl (H.out.keep hW))
  have KL : Hid (∀ W, Below w.heap.size w W → Calls Try.prog 62 #[.pointer (some ⟨Qb, 0, none⟩)] W (GivesInts W (QT.ids T))) := Lib.hid (fun W hW => q_List (H.out.keep hW))
  have KO : Hid (∀ W, Below w.heap.size w W → Calls Try.prog 63 #[.pointer (some ⟨Qb, 0, none⟩), .int .i64 cl] W (GivesInts W (QT.of T cl))) := Lib.hid (fun W hW => q_Of cl (H.out.keep hW))
  have KE : Hid (∀ W, Below w.heap.size w W → Calls Try.prog 67 #[.pointer (some ⟨Qb, 0, none⟩)] W fun e w' => e = .returned (.int .i64 (n : Int)) ∧ W = w') := Lib.hid (fun W hW => by
    have := q_Len (H.out.keep hW)
    rwa [hl] at this)
  have RA : Hid (∀ W, Below w.heap.size w W → Calls Try.prog 128 #[.slice A n c, .int .i64 (-1)] W (GivesInts W (QT.ids T))) := Lib.hid (fun W hW => ref33_Of_all (by omega) (HT.out.keep hW))
  have HNO : Hid ([] = QT.of T cl) := Lib.hid (by
    unfold QT.of
    have : T.filter (fun t => decide (t.2 = cl)) = [] := by
      rw [List.filter_eq_nil_iff]
      intro t ht e
      have h1 := (H.out.ok t ht).2.2.1
      have e' : t.2 = cl := of_decide_eq_true e
      omega
    rw [this]; rfl)
  obtain rfl : pv = -1 := by rw [← hpv]; unfold QT.place; rw [if_neg hin]
  obtain rfl : cv = -1 := by
    rw [← hcv]
    unfold QT.client
    have : T.find? (fun t => decide (t.1 = id)) = none := by
      rw [List.find?_eq_none]
      intro u hu e
      simp only [decide_eq_true_eq] at e
      exact hin (List.mem_map.2 ⟨u, hu, e⟩)
    rw [this]
  have q1 : decide ((0 : Int) ≤ cl) = false := decide_eq_false (by omega)
  clear h ht hb hin hpv hcv hnv hl hlen hn
  obtain ⟨L1, hL1⟩ : ∃ l, QT.ids T = l := ⟨_, rfl⟩
  rw [hL1] at KF KL RA
  obtain ⟨L2, hL2⟩ : ∃ l, QT.of T cl = l := ⟨_, rfl⟩
  rw [hL2] at KH KO HNO
  clear hL1 hL2
  go_enter Try.func61, Try.ntmps61
  go_wp2_with fail
  refine KP.out.mono ?_
  rintro e w1 ⟨rfl, rfl⟩
  go_wp2_with fail
  have b1 : Below w.heap.size w w := Below.refl _ _
  have I1 : Hid (IntsAt w none 0 L2) := Lib.hid (by rw [← HNO.out]; exact IntsAt.nil)
  refine (RA.out _ b1).mono ?_
  rintro e w2 ⟨A2, n2, c2, rfl, i2, b2⟩
  have B2 := bel_trans b1 b2
  have I2 := Lib.hid i2.1
  have I1b := Lib.hid (I1.out.keep b2)
  clear i2 b2 b1
  go_wp2_with fail
  refine (KA.out _ B2).mono ?_
  rintro e w9 ⟨rfl, rfl⟩
  go_wp2_with fail
  refine (KC.out _ B2).mono ?_
  rintro e w9 ⟨rfl, rfl⟩
  go_wp2_with fail
  refine (KN.out _ B2).mono ?_
  rintro e w9 ⟨rfl, rfl⟩
  go_wp2_with fail
  refine (KM.out _ B2).mono ?_
  rintro e w9 ⟨rfl, rfl⟩
  go_wp2_with fail
  refine (KF.out _ B2).mono ?_
  rintro e w9 ⟨rfl, rfl⟩
  go_wp2_with fail
  refine (ref33_First I2.out).mono ?_
  rintro e w9 ⟨rfl, rfl⟩
  go_wp2_with fail
  refine (KH.out _ B2).mono ?_
  rintro e w9 ⟨rfl, rfl⟩
  go_wp2_with fail
  refine (ref33_First I1b.out).mono ?_
  rintro e w9 ⟨rfl, rfl⟩
  go_wp2_with fail
  refine (KL.out _ B2).mono ?_
  rintro e w3 ⟨A3, n3, c3, rfl, i3, b3⟩
  have B3 := bel_trans B2 b3
  have I3 := Lib.hid i3.1
  have I2c := Lib.hid (I2.out.keep b3)
  have I1c := Lib.hid (I1b.out.keep b3)
  clear i3 b3
  go_wp2_with fail
  refine (base_SameInts c3 c2 I3.out I2c.out).mono ?_
  rw [decide_eq_true rfl]
  rintro e w4 ⟨rfl, b4⟩
  have B4 := bel_trans B3 b4
  have I1d := Lib.hid (I1c.out.keep b4)
  clear b4
  go_wp2_with fail
  refine (KO.out _ B4).mono ?_
  rintro e w5 ⟨A5, n5, c5, rfl, i5, b5⟩
  have B5 := bel_trans B4 b5
  have I5 := Lib.hid i5.1
  have I1e := Lib.hid (I1d.out.keep b5)
  clear i5 b5
  go_wp2_with fail
  refine (base_SameInts c5 0 I5.out I1e.out).mono ?_
  rw [decide_eq_true rfl]
  rintro e w6 ⟨rfl, b6⟩
  have B6 := bel_trans B5 b6
  clear b6
  go_wp2_with fail
  refine (KE.out _ B6).mono ?_
  rintro e w9 ⟨rfl, rfl⟩
  go_wp2_with fail
  go_ret
  exact ⟨rfl, B6⟩
theorem law33_same (id cl : Int) (hb : BdI id) (h : QOver w0 w own Qb T) (ht : TAt P w A n c T) : Calls Try.prog 61 #[.pointer (some ⟨Qb, 0, none⟩), .slice A n c, .int .i64 id, .int .i64 cl] w fun e w' => e = .returned (.bool true) ∧ Below w.heap.size w w' := by
  by_cases hin : id ∈ QT.ids T
  · by_cases hcl : 0 ≤ cl
    · exact law33_same_inpos id cl hb hin hcl h ht
    · exact law33_same_inneg id cl hb hin (by omega) h ht
  · by_cases hcl : 0 ≤ cl
    · exact law33_same_outpos id cl hb hin hcl h ht
    · exact law33_same_outneg id cl hb hin (by omega) h ht
end Go.Proofs.Ytdhcmnbajkpjiaa
/-
  Slices of bytes that read as lists.
-/
namespace Go.Proofs.Ytdhcmnbajkpjiaa
open Go.RowKit
set_option linter.unusedVariables false

/-- The slice value of length n at A reads as xs, bytes. -/
def BytesAt (w : World) (A : Option Addr) (n : Nat) (xs : List Int) : Prop :=
  xs.length = n ∧ n ≤ 9223372036854775807 ∧ (∀ x ∈ xs, 0 ≤ x ∧ x < 256) ∧ (0 < n → ∃ b off, A = some ⟨b, off, none⟩ ∧ b < w.heap.size ∧ ∀ i, i < n → w.cell? ⟨b, off + i, none⟩ = some (.int .u8 (xs.getD i 0)))

theorem BytesAt.keep {w w' : World} {A : Option Addr} {n : Nat} {xs : List Int} (h : BytesAt w A n xs) (k : Below w.heap.size w w') : BytesAt w' A n xs :=
  ⟨h.1, h.2.1, h.2.2.1, fun hn => by
    obtain ⟨b, off, e, hb, hc⟩ := h.2.2.2 hn
    exact ⟨b, off, e, Nat.lt_of_lt_of_le hb k.size, fun i hi => (k.cell hb).trans (hc i hi)⟩⟩
theorem BytesAt.bd {w : World} {A : Option Addr} {n : Nat} {xs : List Int} (h : BytesAt w A n xs) {i : Nat} (hi : i < n) : 0 ≤ xs.getD i 0 ∧ xs.getD i 0 < 256 := by
  have hl : i < xs.length := by have := h.1; omega
  refine h.2.2.1 _ ?_
  simp [List.getD, hl]
end Go.Proofs.Ytdhcmnbajkpjiaa
/-
  Chapter 33: the example; the walk of QueueNext.
-/
namespace Go.Proofs.Ytdhcmnbajkpjiaa
open Go.RowKit
open Go.Maps
set_option linter.unusedVariables false
set_option linter.unusedSimpArgs false
attribute [local go_sem] drewN_alloc drewN_setCell

theorem ints_two (W : World) (x y : Int) : IntsAt (W.alloc (.cells #[.int .i64 x, .int .i64 y] 3)) (some ⟨W.heap.size, 0, none⟩) 2 [x, y] := by
  refine ⟨rfl, by omega, fun _ => ⟨W.heap.size, 0, rfl, by simp, fun i hi => ?_⟩⟩
  have hi' : i = 0 ∨ i = 1 := by omega
  rcases hi' with rfl | rfl
  · simp [go_sem]
  · simp [go_sem]
theorem QStep.over {w0 w w' : World} {own : Nat → Prop} {Qb : Nat} {T : List (Int × Int)} (h : QStep w0 w own Qb T w') : ∃ own', QOver w0 w' own' Qb T := by
  obtain ⟨own', h1, _⟩ := h
  exact ⟨own', h1⟩
set_option maxRecDepth 100000 in
set_option maxHeartbeats 2000000 in
theorem law33_works (w : World) : Calls Try.prog 55 #[] w fun e w' => e = .returned (.bool true) ∧ Below w.heap.size w w' := by
  have bd : ∀ x : Int, 0 ≤ x → x ≤ 100 → BdI x := fun x h1 h2 => ⟨by omega, by omega⟩
  have A1 := fun (W : World) (own : Nat → Prop) (Qb : Nat) (h : QOver w W own Qb []) => q_Add 4 1 (bd _ (by omega) (by omega)) h
  rw [show QT.addE [] 4 1 = 0 by decide, show QT.add [] 4 1 = [(4, 1)] by decide] at A1
  replace A1 := Lib.hid A1
  have A2 := fun (W : World) (own : Nat → Prop) (Qb : Nat) (h : QOver w W own Qb [(4, 1)]) => q_Add 7 0 (bd _ (by omega) (by omega)) h
  rw [show QT.addE [(4, 1)] 7 0 = 0 by decide, show QT.add [(4, 1)] 7 0 = [(4, 1), (7, 0)] by decide] at A2
  replace A2 := Lib.hid A2
  have A3 := fun (W : World) (own : Nat → Prop) (Qb : Nat) (h : QOver w W own Qb [(4, 1), (7, 0)]) => q_Add 9 1 (bd _ (by omega) (by omega)) h
  rw [show QT.addE [(4, 1), (7, 0)] 9 1 = 0 by decide, show QT.add [(4, 1), (7, 0)] 9 1 = [(4, 1), (7, 0), (9, 1)] by decide] at A3
  replace A3 := Lib.hid A3
  have A4 := fun (W : World) (own : Nat → Prop) (Qb : Nat) (h : QOver w W own Qb [(4, 1), (7, 0), (9, 1)]) => q_Add 9 0 (bd _ (by omega) (by omega)) h
  rw [show QT.addE [(4, 1), (7, 0), (9, 1)] 9 0 = 19 by decide, show QT.add [(4, 1), (7, 0), (9, 1)] 9 0 = [(4, 1), (7, 0), (9, 1)] by decide] at A4
  replace A4 := Lib.hid A4
  have B1 := fun (W : World) (own : Nat → Prop) (Qb : Nat) (h : QOver w W own Qb [(4, 1), (7, 0), (9, 1)]) => q_Of 1 h
  rw [show QT.of [(4, 1), (7, 0), (9, 1)] 1 = [4, 9] by decide] at B1
  have B2 := fun (W : World) (own : Nat → Prop) (Qb : Nat) (h : QOver w W own Qb [(4, 1), (7, 0), (9, 1)]) => q_Drop 4 (bd _ (by omega) (by omega)) h
  rw [show QT.dropE [(4, 1), (7, 0), (9, 1)] 4 = 0 by decide, show QT.drop [(4, 1), (7, 0), (9, 1)] 4 = [(7, 0), (9, 1)] by decide] at B2
  have B3 := fun (W : World) (own : Nat → Prop) (Qb : Nat) (h : QOver w W own Qb [(7, 0), (9, 1)]) => q_First h
  rw [show QT.first [(7, 0), (9, 1)] = 7 by decide] at B3
  have B4 := fun (W : World) (own : Nat → Prop) (Qb : Nat) (h : QOver w W own Qb [(7, 0), (9, 1)]) => q_Head 1 h
  rw [show (QT.of [(7, 0), (9, 1)] 1).headD 0 = 9 by decide] at B4
  have B5 := fun (W : World) (own : Nat → Prop) (Qb : Nat) (h : QOver w W own Qb [(7, 0), (9, 1)]) => q_Next 7 (bd _ (by omega) (by omega)) h
  rw [show QT.next [(7, 0), (9, 1)] 7 = 9 by decide] at B5
  have B6 := fun (W : World) (own : Nat → Prop) (Qb : Nat) (h : QOver w W own Qb [(7, 0), (9, 1)]) => q_Ahead 9 (bd _ (by omega) (by omega)) h
  rw [show QT.place [(7, 0), (9, 1)] 9 = 1 by decide] at B6
  have B7 := fun (W : World) (own : Nat → Prop) (Qb : Nat) (h : QOver w W own Qb [(7, 0), (9, 1)]) => q_Client 9 (bd _ (by omega) (by omega)) h
  rw [show QT.client [(7, 0), (9, 1)] 9 = 1 by decide] at B7
  replace B1 := Lib.hid B1
  replace B2 := Lib.hid B2
  replace B3 := Lib.hid B3
  replace B4 := Lib.hid B4
  replace B5 := Lib.hid B5
  replace B6 := Lib.hid B6
  replace B7 := Lib.hid B7
  have N := Lib.hid (q_New w)
  clear bd
  go_enter Try.func55, Try.ntmps55
  go_wp2_with fail
  refine N.out.mono ?_
  rintro e w1 ⟨Qb, o1, rfl, h1⟩
  replace h1 := Lib.hid h1
  go_wp2_with fail
  refine (A1.out _ _ _ h1.out).mono ?_
  rintro e w2 ⟨rfl, o2, h2, -⟩
  replace h2 := Lib.hid h2
  go_wp2_with fail
  refine (A2.out _ _ _ h2.out).mono ?_
  rintro e w3 ⟨rfl, o3, h3, -⟩
  replace h3 := Lib.hid h3
  go_wp2_with fail
  refine (A3.out _ _ _ h3.out).mono ?_
  rintro e w4 ⟨rfl, o4, h4, -⟩
  replace h4 := Lib.hid h4
  go_wp2_with fail
  refine (A4.out _ _ _ h4.out).mono ?_
  rintro e w5 ⟨rfl, o5, h5, -⟩
  replace h5 := Lib.hid h5
  go_wp2_with fail
  refine (B1.out _ _ _ h5.out).mono ?_
  rintro e w6 ⟨A, m, c, rfl, hA, hb⟩
  replace h6 := Lib.hid (h5.out.keep hb)
  replace hA := Lib.hid hA
  clear hb
  go_wp2_with fail
  refine (base_SameInts c 2 (hA.out.1.keep (bel_alloc (Below.refl _ _) _)) (ints_two _ 4 9)).mono ?_
  rw [decide_eq_true rfl]
  rintro e w7 ⟨rfl, hb⟩
  have h7 := Lib.hid (h6.out.keep (bel_trans (bel_alloc (Below.refl _ _) _) hb))
  clear hb
  go_wp2_with fail
  refine (B2.out _ _ _ h7.out).mono ?_
  rintro e w8 ⟨rfl, o8, h8, -⟩
  replace h8 := Lib.hid h8
  go_wp2_with fail
  refine (B3.out _ _ _ h8.out).mono ?_
  rintro e w9 ⟨rfl, rfl⟩
  go_wp2_with fail
  refine (B4.out _ _ _ h8.out).mono ?_
  rintro e w9 ⟨rfl, rfl⟩
  go_wp2_with fail
  refine (B5.out _ _ _ h8.out).mono ?_
  rintro e w9 ⟨rfl, rfl⟩
  go_wp2_with fail
  refine (B6.out _ _ _ h8.out).mono ?_
  rintro e w9 ⟨rfl, rfl⟩
  go_wp2_with fail
  refine (B7.out _ _ _ h8.out).mono ?_
  rintro e w9 ⟨rfl, rfl⟩
  go_wp2_with fail
  go_ret
  exact ⟨rfl, h8.out.below⟩
def NextRel1 (w : World) (Qb N : Nat) (i : Value) (wr : World) : Prop := ∃ (j : Nat) (own : Nat → Prop) (T : List (Int × Int)), j ≤ N ∧ i = .int .i64 j ∧ QOver w wr own Qb T
def NextRel2 (w2 : World) (T : List (Int × Int)) (id i : Value) (wr : World) : Prop := ∃ k : Nat, k ≤ T.length ∧ i = .int .i64 k ∧ id = .int .i64 (((QT.ids T).drop k).headD 0) ∧ Below w2.heap.size w2 wr
theorem drop_head {l : List Int} {k : Nat} (hk : k < l.length) : (l.drop k).headD 0 = l[k] := by
  rw [List.drop_eq_getElem_cons hk]; rfl
set_option maxRecDepth 100000 in
set_option maxHeartbeats 4000000 in
theorem law33_QueueNext (A : Option Addr) (n c : Nat) (xs : List Int) (w : World) (hA : BytesAt w A n xs) :
    Calls Try.prog 11 #[.slice A n c] w fun e w' => e = .returned (.bool true) ∧ Below w.heap.size w w' := by
  by_cases h100 : 100 < n
  · have h1' : (100 : Int) < (n : Int) := by omega
    clear hA
    go_enter Try.func11, Try.ntmps11
    go_wp2_with fail
    refine (law33_works _).mono ?_
    rintro e w1 ⟨rfl, h1⟩
    go_wp2_with fail
    go_ret
    exact ⟨rfl, h1⟩
  have hd1 : decide ((100 : Int) < (n : Int)) = false := by simp; omega
  have j1 : (n : Int) ≤ 100 := by omega
  obtain ⟨hlen, -, hbd, hcl⟩ := hA
  have HLEN := Lib.hid hlen
  have HBD := Lib.hid hbd
  have HC := Lib.hid hcl
  have N := Lib.hid (q_New w)
  clear hlen hbd hcl h100
  go_enter Try.func11, Try.ntmps11
  go_wp2_with fail
  refine N.out.mono ?_
  rintro e w1 ⟨Qb, o1, rfl, h1⟩
  replace h1 := Lib.hid h1
  go_wp2_with fail
  go_loopw [4] (fun i wr => NextRel1 w Qb n i wr) (fun i _ => n - (intOf i).toNat)
  case atStart => exact ⟨0, o1, [], Nat.zero_le _, rfl, h1.out⟩
  case round =>
    clear h1 N
    obtain ⟨j, own, T, hj, rfl, ho⟩ := hrel
    have HJ := Lib.hid hj
    have HO := Lib.hid ho
    clear hj ho
    by_cases hlt : (j : Int) < n
    · obtain ⟨b, off, rfl, hb, hc⟩ := HC.out (by omega)
      have x0 := (HO.out.below.cell (p := ⟨b, off + j, none⟩) hb).trans (hc j (by omega))
      obtain ⟨x, hx⟩ : ∃ x, xs.getD j 0 = x := ⟨_, rfl⟩
      have hjl : j < xs.length := by have := HLEN.out; omega
      have hxe : xs[j] = x := by rw [← hx]; simp [List.getD, hjl]
      have hxb := HBD.out x (by rw [← hxe]; exact List.getElem_mem hjl)
      obtain ⟨hx0, hx1⟩ := hxb
      rw [hx] at x0
      have K1 := Lib.hid (q_Drop (1 + x / 8) ⟨by omega, by omega⟩ HO.out)
      have K2 := Lib.hid (q_Add (1 + x / 4) ((j : Int) % 64) ⟨by omega, by omega⟩ HO.out)
      have g0 : (0 : Int) ≤ (j : Int) := by omega
      have g1 : (j : Int) < (n : Int) := hlt
      have HJN : Hid (j + 1 ≤ n ∧ n - (j + 1) < n - j) := Lib.hid (by omega)
      clear hx hxe hjl hb hc
      by_cases h3 : x % 4 = 3
      · have q3 : (x % 4 == 3) = true := by simpa using h3
        go_wp2_with fail
        refine K1.out.mono ?_
        rintro e w2 ⟨rfl, h2⟩
        obtain ⟨o2, h2⟩ := h2.over
        replace h2 := Lib.hid h2
        generalize QT.dropE T (1 + x / 8) = tv
        go_wp2_with fail
        go_roundw
        case rel => exact ⟨j + 1, o2, _, HJN.out.1, by go_num, h2.out⟩
        case measure => have := HJN.out; simp [intOf]; omega
      · have q3 : (x % 4 == 3) = false := by simpa using h3
        go_wp2_with fail
        refine K2.out.mono ?_
        rintro e w2 ⟨rfl, h2⟩
        obtain ⟨o2, h2⟩ := h2.over
        replace h2 := Lib.hid h2
        generalize QT.addE T (1 + x / 4) ((j : Int) % 64) = tv
        go_wp2_with fail
        go_roundw
        case rel => exact ⟨j + 1, o2, _, HJN.out.1, by go_num, h2.out⟩
        case measure => have := HJN.out; simp [intOf]; omega
    · have K := Lib.hid (q_List HO.out)
      have HT := Lib.hid HO.out.len
      clear HC HBD HLEN
      go_wp2_with fail
      refine K.out.mono ?_
      rintro e w2 ⟨A2, m2, c2, rfl, hA2, hb2⟩
      have h2 := Lib.hid (HO.out.keep hb2)
      have hm2 : m2 = T.length := by have := hA2.1.1; rw [← this]; simp [QT.ids]
      subst hm2
      replace hA2 := Lib.hid hA2
      have KF := Lib.hid (q_First h2.out)
      clear hb2 HO K hlt HJ
      go_wp2_with fail
      refine KF.out.mono ?_
      rintro e w3 ⟨rfl, rfl⟩
      obtain ⟨fv, hfv⟩ : ∃ z, QT.first T = z := ⟨_, rfl⟩
      rw [hfv]
      have HFV := Lib.hid hfv
      clear hfv
      go_wp2_with fail
      go_loopw [6, 7] (fun q i wr => NextRel2 w2 T q i wr) (fun q i _ => T.length - (intOf i).toNat)
      case atStart => exact ⟨0, Nat.zero_le _, rfl, by rw [← HFV.out]; rfl, Below.refl _ _⟩
      case round =>
        obtain ⟨k, hk, rfl, rfl, hb⟩ := hrel
        have HB := Lib.hid hb
        have H3 := Lib.hid (h2.out.keep hb)
        have ht := HT.out
        have hidl : (QT.ids T).length = T.length := by simp [QT.ids]
        clear hb
        by_cases hlt : k < T.length
        · have hlt' : (k : Int) < (T.length : Int) := by omega
          have hkl : k < (QT.ids T).length := by omega
          obtain ⟨y, hy⟩ : ∃ y, (QT.ids T)[k] = y := ⟨_, rfl⟩
          have e1 : ((QT.ids T).drop k).headD 0 = y := (drop_head hkl).trans hy
          have hmem : y ∈ QT.ids T := by rw [← hy]; exact List.getElem_mem _
          have hbd : BdI y := by
            unfold QT.ids at hmem
            obtain ⟨t, ht, e⟩ := List.mem_map.1 hmem
            have := (H3.out.ok t ht).2.1
            rw [e] at this
            exact this
          have e0 : (QT.ids T).idxOf y = k := by rw [← hy]; exact idx_nodup H3.out.nodup hkl
          have e2 : QT.place T y = (k : Int) := by
            unfold QT.place
            rw [if_pos hmem, e0]
          have e3 : QT.next T y = ((QT.ids T).drop (k + 1)).headD 0 := by
            unfold QT.next
            rw [if_pos hmem, e0]
          have KA := q_Ahead y hbd H3.out
          have KN := q_Next y hbd H3.out
          rw [e2] at KA
          rw [e3] at KN
          rw [e1]
          obtain ⟨b, off, rfl, hbb, hc⟩ := hA2.out.1.2.2 (by omega)
          have x0 := (HB.out.cell (p := ⟨b, off + k, none⟩) hbb).trans (hc k hlt)
          have e4 : (QT.ids T).getD k 0 = y := by rw [← hy]; simp [List.getD, hkl]
          rw [e4] at x0
          obtain ⟨z, hz⟩ : ∃ z, ((QT.ids T).drop (k + 1)).headD 0 = z := ⟨_, rfl⟩
          rw [hz] at KN
          have HZ := Lib.hid hz
          replace KA := Lib.hid KA
          replace KN := Lib.hid KN
          have g0 : (0 : Int) ≤ (k : Int) := by omega
          have g2 : (k : Int) + 1 ≤ 256 := by omega
          have HKN : Hid (k + 1 ≤ T.length) := Lib.hid hlt
          clear e0 e1 hmem hbd e2 e3 hc e4 hz hy
          go_wp2_with fail
          refine KA.out.mono ?_
          rintro e w4 ⟨rfl, rfl⟩
          go_wp2_with fail
          refine KN.out.mono ?_
          rintro e w4 ⟨rfl, rfl⟩
          go_wp2_with fail
          go_roundw
          case rel => exact ⟨k + 1, HKN.out, by go_num, by rw [HZ.out], HB.out⟩
          case measure => have := HKN.out; simp [intOf]; omega
        · obtain rfl : k = T.length := by omega
          have e1 : ((QT.ids T).drop T.length).headD 0 = 0 := by rw [← hidl, List.drop_length]; rfl
          rw [e1]
          have KL := Lib.hid (q_Len H3.out)
          clear e1
          go_wp2_with fail
          refine KL.out.mono ?_
          rintro e w4 ⟨rfl, rfl⟩
          go_wp2_with fail
          refine (law33_works _).mono ?_
          rintro e w5 ⟨rfl, hb5⟩
          have HE := Lib.hid (bel_trans H3.out.below hb5)
          clear hb5
          go_wp2_with fail
          go_ret
          exact ⟨rfl, HE.out⟩
end Go.Proofs.Ytdhcmnbajkpjiaa
/-
  Openers for slices whose elements are rows of ints (arrays, structs, nested ones).
-/
namespace Go.Proofs.Ytdhcmnbajkpjiaa.Fr
open Go.ChangeShapes Go.WideShapes Go.ChangeAt Go.RowKit Go.Deep

section
variable {H : Type} {enc : TypeId × Value → H} {P : Program} {w : World}

/-- A type whose cells are S ints. -/
def FlatInt {H : Type} (enc : TypeId × Value → H) (P : Program) (w : World) (sp : Nat → Bool) (e S : Nat) : Prop :=
  ∀ fuel cs x, DataW.trod enc P w 0 sp true fuel e cs = some x → cs.length = S ∧ ∀ j, j < S → ∃ n : Int, cs[j]? = some (Value.int .i64 n) ∧ -9223372036854775808 ≤ n ∧ n ≤ 9223372036854775807

theorem FlatInt.int {sp : Nat → Bool} {e : Nat} (he : P.underlying e = some (.int .i64)) : FlatInt enc P w sp e 1 := by
  intro fuel cs x h
  obtain ⟨n, rfl, _, hw⟩ := DataW.trod_int he h
  refine ⟨rfl, fun j hj => ?_⟩
  obtain rfl : j = 0 := by omega
  exact ⟨n, rfl, bounds_i64 hw⟩

theorem FlatInt.array {sp : Nat → Bool} {e n it S : Nat} (he : P.underlying e = some (.array n it)) (hi : FlatInt enc P w sp it S) (hS : P.cellsOf it = S) (hc : P.cellsOf e = n * S) (h0 : 0 < S) : FlatInt enc P w sp e (n * S) := by
  intro fuel cs x h
  obtain ⟨xs, m, _, _, hlen, hxl, hg⟩ := DataW.trod_array he h
  refine ⟨hlen.trans hc, fun j hj => ?_⟩
  have hq : j / S < n := Nat.div_lt_of_lt_mul (by rw [Nat.mul_comm]; exact hj)
  have h1 := hg (j / S) hq
  have hx : xs[j / S]? = some (xs[j / S]'(by omega)) := List.getElem?_eq_getElem (by omega)
  rw [hx, hS] at h1
  obtain ⟨_, h2⟩ := hi _ _ _ h1
  obtain ⟨v, hv, hb⟩ := h2 (j % S) (Nat.mod_lt _ h0)
  refine ⟨v, ?_, hb⟩
  rw [List.getElem?_take, if_pos (Nat.mod_lt _ h0), List.getElem?_drop] at hv
  rw [← hv]
  congr 1
  have := Nat.div_add_mod j S
  rw [Nat.mul_comm] at this
  omega

theorem FlatInt.struct {sp : Nat → Bool} {e S : Nat} {fs : Array Field} (he : P.underlying e = some (.struct fs)) (hc : P.cellsOf e = S)
    (hf : ∀ j, j < S → ∃ (i : Nat) (f : Field), fs[i]? = some f ∧ f.offset ≤ j ∧ j < f.offset + P.cellsOf f.type ∧ FlatInt enc P w sp f.type (P.cellsOf f.type)) : FlatInt enc P w sp e S := by
  intro fuel cs x h
  obtain ⟨xs, m, _, _, hlen, hxl, hg⟩ := DataW.trod_struct he h
  refine ⟨hlen.trans hc, fun j hj => ?_⟩
  obtain ⟨i, f, hfi, h1, h2, hfl⟩ := hf j hj
  have hil : i < fs.size := (Array.getElem?_eq_some_iff.1 hfi).1
  have h3 := hg i f hfi
  have hx : xs[i]? = some (xs[i]'(by omega)) := List.getElem?_eq_getElem (by omega)
  rw [hx] at h3
  obtain ⟨_, h4⟩ := hfl _ _ _ h3
  obtain ⟨v, hv, hb⟩ := h4 (j - f.offset) (by omega)
  refine ⟨v, ?_, hb⟩
  rw [List.getElem?_take, if_pos (by omega), List.getElem?_drop] at hv
  rw [← hv]
  congr 1
  omega

/-- What the walk is told of a slice of rows of S ints that came in. -/
def IsRows (w : World) (S : Nat) (a : Option Addr) (len cap : Nat) (F : Nat → Nat → Int) : Prop :=
  (a = none ∧ len = 0 ∧ cap = 0) ∨
  ∃ b off, a = some ⟨b, off, none⟩ ∧ (0 < len → b < w.heap.size) ∧ len ≤ cap ∧ cap ≤ maxLen ∧
    ∀ i, i < cap → ∀ j, j < S → w.cell? ⟨b, off + i * S + j, none⟩ = some (.int .i64 (F i j)) ∧ -9223372036854775808 ≤ F i j ∧ F i j ≤ 9223372036854775807

theorem open_rows {t e S : Nat} {a : Option Addr} {len cap : Nat} {d : DataW H} {ps : List MemPlace} {base : Nat} (ht : P.underlying t = some (.slice e)) (hS : P.cellsOf e = S) (h0 : 0 < S)
    (hfl : FlatInt enc P w (fun _ => true) e S)
    (h : DataW.Trod enc P w 0 (fun _ => true) true t (.slice a len cap) d ps) (hv : Value.okWide P w .any base t (.slice a len cap)) : ∃ F, IsRows w S a len cap F := by
  obtain ⟨fuel, hf⟩ := h
  rcases open_slice ht hf with ⟨hcs, _⟩ | ⟨x, l, c, m, n, D, Pl, hcs, hb, hl, hm, hmm, hx, hi⟩
  · simp [Value.cells] at hcs
    obtain ⟨rfl, rfl, rfl⟩ := hcs
    exact ⟨fun _ _ => 0, .inl ⟨rfl, rfl, rfl⟩⟩
  · simp [Value.cells] at hcs
    obtain ⟨rfl, rfl, rfl⟩ := hcs
    simp only [if_true] at hmm
    subst hmm
    have hsp : x.spot = none := by
      unfold Value.okWide at hv
      rw [ht] at hv
      simp only at hv
      unfold Cell.okWide at hv
      rw [ht] at hv
      simp only at hv
      unfold Cell.ok at hv
      rw [ht] at hv
      simp only at hv
      exact hv.2.2.2.1
    obtain ⟨b, off, spot⟩ := x
    simp only at hsp
    subst hsp
    have key : ∀ i j, i < m → j < S → ∃ v : Int, w.cell? ⟨b, off + i * S + j, none⟩ = some (.int .i64 v) ∧ -9223372036854775808 ≤ v ∧ v ≤ 9223372036854775807 := by
      intro i j him hjS
      obtain ⟨cs', hc, ht'⟩ := hi i him
      rw [hS] at hc
      obtain ⟨hlen, hfj⟩ := hfl _ _ _ ht'
      obtain ⟨v, hv', hb'⟩ := hfj j hjS
      obtain ⟨_, _, hat⟩ := World.cells?_some hc
      have hcell := hat j hjS
      refine ⟨v, ?_, hb'⟩
      rw [← hv', ← hcell]
      congr 1
      simp only [Addr.add]
      split <;> split <;> simp_all [Nat.add_assoc]
    refine ⟨fun i j => match w.cell? ⟨b, off + i * S + j, none⟩ with | some (.int _ n) => n | _ => 0, .inr ⟨b, off, rfl, fun hl0 => ?_, hl, hm, fun i him j hjS => ?_⟩⟩
    · obtain ⟨v, hv', _⟩ := key 0 0 (by omega) h0
      exact World.block_lt_of_cell? _ _ hv'
    · obtain ⟨v, hv', hb'⟩ := key i j him hjS
      simp only [hv']
      exact ⟨trivial, hb'⟩
end
end Go.Proofs.Ytdhcmnbajkpjiaa.Fr
/-
  An opener for slices of structs whose cells are of several kinds.
-/
namespace Go.Proofs.Ytdhcmnbajkpjiaa.Fr
open Go.ChangeShapes Go.WideShapes Go.ChangeAt Go.RowKit Go.Deep

section
variable {H : Type} {enc : TypeId × Value → H} {P : Program} {w : World}

/-- A type of S cells, the j-th of which meets Q j. -/
def FlatP {H : Type} (enc : TypeId × Value → H) (P : Program) (w : World) (sp : Nat → Bool) (Q : Nat → Value → Prop) (e S : Nat) : Prop :=
  ∀ fuel cs x, DataW.trod enc P w 0 sp true fuel e cs = some x → cs.length = S ∧ ∀ j, j < S → ∃ v, cs[j]? = some v ∧ Q j v

def IntV (v : Value) : Prop := ∃ n : Int, v = .int .i64 n ∧ -9223372036854775808 ≤ n ∧ n ≤ 9223372036854775807
def BoolV (v : Value) : Prop := ∃ b : Bool, v = .bool b

theorem FlatP.int {sp : Nat → Bool} {Q : Nat → Value → Prop} {e : Nat} (he : P.underlying e = some (.int .i64)) (hQ : ∀ v, IntV v → Q 0 v) : FlatP enc P w sp Q e 1 := by
  intro fuel cs x h
  obtain ⟨n, rfl, _, hw⟩ := DataW.trod_int he h
  refine ⟨rfl, fun j hj => ?_⟩
  obtain rfl : j = 0 := by omega
  exact ⟨_, rfl, hQ _ ⟨n, rfl, bounds_i64 hw⟩⟩
theorem FlatP.bool {sp : Nat → Bool} {Q : Nat → Value → Prop} {e : Nat} (he : P.underlying e = some .bool) (hQ : ∀ v, BoolV v → Q 0 v) : FlatP enc P w sp Q e 1 := by
  intro fuel cs x h
  obtain ⟨n, rfl, _⟩ := DataW.trod_bool he h
  refine ⟨rfl, fun j hj => ?_⟩
  obtain rfl : j = 0 := by omega
  exact ⟨_, rfl, hQ _ ⟨n, rfl⟩⟩

theorem FlatP.struct {sp : Nat → Bool} {Q : Nat → Value → Prop} {e S : Nat} {fs : Array Field} (he : P.underlying e = some (.struct fs)) (hc : P.cellsOf e = S)
    (hf : ∀ j, j < S → ∃ (i : Nat) (f : Field), fs[i]? = some f ∧ f.offset ≤ j ∧ j < f.offset + P.cellsOf f.type ∧ FlatP enc P w sp (fun k v => Q (f.offset + k) v) f.type (P.cellsOf f.type)) : FlatP enc P w sp Q e S := by
  intro fuel cs x h
  obtain ⟨xs, m, _, _, hlen, hxl, hg⟩ := DataW.trod_struct he h
  refine ⟨hlen.trans hc, fun j hj => ?_⟩
  obtain ⟨i, f, hfi, h1, h2, hfl⟩ := hf j hj
  have hil : i < fs.size := (Array.getElem?_eq_some_iff.1 hfi).1
  have h3 := hg i f hfi
  have hx : xs[i]? = some (xs[i]'(by omega)) := List.getElem?_eq_getElem (by omega)
  rw [hx] at h3
  obtain ⟨_, h4⟩ := hfl _ _ _ h3
  obtain ⟨v, hv, hb⟩ := h4 (j - f.offset) (by omega)
  refine ⟨v, ?_, ?_⟩
  · rw [List.getElem?_take, if_pos (by omega), List.getElem?_drop] at hv
    rw [← hv]
    congr 1
    omega
  · rwa [show f.offset + (j - f.offset) = j by omega] at hb

/-- A struct each of whose fields is one cell. -/
theorem FlatP.struct1 {sp : Nat → Bool} {Q : Nat → Value → Prop} {e S : Nat} {fs : Array Field} (he : P.underlying e = some (.struct fs)) (hc : P.cellsOf e = S)
    (hf : ∀ j, j < S → ∃ f : Field, fs[j]? = some f ∧ f.offset = j ∧ P.cellsOf f.type = 1 ∧ FlatP enc P w sp (fun k v => Q (j + k) v) f.type 1) : FlatP enc P w sp Q e S := by
  refine FlatP.struct he hc (fun j hj => ?_)
  obtain ⟨f, h1, h2, h3, h4⟩ := hf j hj
  subst h2
  exact ⟨_, f, h1, Nat.le_refl _, by omega, by rw [h3]; exact h4⟩

/-- What the walk is told of a slice of rows of S cells that came in. -/
def RowsP (w : World) (S : Nat) (Q : Nat → Value → Prop) (a : Option Addr) (len : Nat) : Prop :=
  len ≤ 9223372036854775807 ∧ (0 < len → ∃ b off, a = some ⟨b, off, none⟩ ∧ b < w.heap.size ∧
    ∀ i, i < len → ∀ j, j < S → ∃ v, w.cell? ⟨b, off + i * S + j, none⟩ = some v ∧ Q j v)

theorem open_rowsP {t e S : Nat} {Q : Nat → Value → Prop} {a : Option Addr} {len cap : Nat} {d : DataW H} {ps : List MemPlace} {base : Nat} (ht : P.underlying t = some (.slice e)) (hS : P.cellsOf e = S) (h0 : 0 < S)
    (hfl : FlatP enc P w (fun _ => true) Q e S)
    (h : DataW.Trod enc P w 0 (fun _ => true) true t (.slice a len cap) d ps) (hv : Value.okWide P w .any base t (.slice a len cap)) : RowsP w S Q a len := by
  obtain ⟨fuel, hf⟩ := h
  rcases open_slice ht hf with ⟨hcs, _⟩ | ⟨x, l, c, m, n, D, Pl, hcs, hb, hl, hm, hmm, hx, hi⟩
  · simp [Value.cells] at hcs
    obtain ⟨rfl, rfl, rfl⟩ := hcs
    exact ⟨by omega, fun h => absurd h (by omega)⟩
  · simp [Value.cells] at hcs
    obtain ⟨rfl, rfl, rfl⟩ := hcs
    simp only [if_true] at hmm
    subst hmm
    have hsp : x.spot = none := by
      unfold Value.okWide at hv
      rw [ht] at hv
      simp only at hv
      unfold Cell.okWide at hv
      rw [ht] at hv
      simp only at hv
      unfold Cell.ok at hv
      rw [ht] at hv
      simp only at hv
      exact hv.2.2.2.1
    obtain ⟨b, off, spot⟩ := x
    simp only at hsp
    subst hsp
    have key : ∀ i j, i < m → j < S → ∃ v, w.cell? ⟨b, off + i * S + j, none⟩ = some v ∧ Q j v := by
      intro i j him hjS
      obtain ⟨cs', hc, ht'⟩ := hi i him
      rw [hS] at hc
      obtain ⟨hlen, hfj⟩ := hfl _ _ _ ht'
      obtain ⟨v, hv', hb'⟩ := hfj j hjS
      obtain ⟨_, _, hat⟩ := World.cells?_some hc
      have hcell := hat j hjS
      refine ⟨v, ?_, hb'⟩
      rw [← hv', ← hcell]
      congr 1
      simp only [Addr.add]
      split <;> split <;> simp_all [Nat.add_assoc]
    refine ⟨by unfold maxLen at hm; omega, fun hn => ⟨b, off, rfl, ?_, fun i hil j hj => key i j (by omega) hj⟩⟩
    obtain ⟨v, hv', _⟩ := key 0 0 (by omega) h0
    exact World.block_lt_of_cell? _ _ hv'
end
end Go.Proofs.Ytdhcmnbajkpjiaa.Fr
/-
  The walk of QueuePlays.
-/
namespace Go.Proofs.Ytdhcmnbajkpjiaa
open Go.RowKit
open Go.Maps
set_option linter.unusedVariables false
set_option linter.unusedSimpArgs false
attribute [local go_sem] drewN_alloc drewN_setCell

variable {P : Nat → Prop} {w0 w w' : World} {own own' : Nat → Prop} {Qb : Nat} {A : Option Addr} {n c : Nat} {T : List (Int × Int)}
theorem TAt.step (h : TAt (fun b => ¬ own b) w A n c T) (hc : Chg own w w') (ho : ∀ k, own' k → own k ∨ w.heap.size ≤ k) : TAt (fun b => ¬ own' b) w' A n c T := by
  refine ((h.mono (fun b hb hP => ?_) : TAt (fun b => ¬ own b ∧ ¬ own' b) w A n c T).blocks hc.size (fun b hb hP => hc.block b hb hP.1)).mono (fun b _ hP => hP.2)
  refine ⟨hP, fun hh => ?_⟩
  rcases ho b hh with h1 | h1
  · exact hP h1
  · omega
theorem pl_not {x : Int} (hx : x ∉ QT.ids T) : QT.place T x = -1 := by unfold QT.place; rw [if_neg hx]
theorem ref33_Drop (id : Int) (hnd : (QT.ids T).Nodup) (h5 : n ≤ 256) (hP : ∀ b, w.heap.size ≤ b → P b) (h : TAt P w A n c T) : Calls Try.prog 57 #[.slice A n c, .int .i64 id] w (GRefT P w (QT.drop T id) (QT.dropE T id)) := by
  by_cases hx : id ∈ QT.ids T
  · have e : QT.dropE T id = 0 := by unfold QT.dropE; rw [if_pos hx]
    rw [e]
    exact ref33_Drop_ok id hnd hx h5 hP h
  · have e : QT.dropE T id = 12 := by unfold QT.dropE; rw [if_neg hx]
    have e2 : QT.drop T id = T := by
      unfold QT.drop
      rw [List.filter_eq_self]
      intro t ht
      refine decide_eq_true (fun e => hx ?_)
      exact List.mem_map.2 ⟨t, ht, e⟩
    rw [e, e2]
    refine (ref33_Drop_no id (pl_not hx) h).mono ?_
    rintro e w' ⟨rfl, rfl⟩
    exact ⟨_, _, _, rfl, h, Below.refl _ _⟩
theorem ref33_Add (id cl : Int) (hP : ∀ b, w.heap.size ≤ b → P b) (h : TAt P w A n c T) : Calls Try.prog 59 #[.slice A n c, .int .i64 id, .int .i64 cl] w (GRefT P w (QT.add T id cl) (QT.addE T id cl)) := by
  have no : ∀ code : Int, code ≠ 0 → QT.addE T id cl = code → (Calls Try.prog 59 #[.slice A n c, .int .i64 id, .int .i64 cl] w fun e w' => e = .returned (.tuple #[.slice A n c, .int .i64 code]) ∧ w = w') → Calls Try.prog 59 #[.slice A n c, .int .i64 id, .int .i64 cl] w (GRefT P w (QT.add T id cl) (QT.addE T id cl)) := fun code hne hc hh => by
    have e2 : QT.add T id cl = T := by unfold QT.add; rw [hc, if_neg hne]
    rw [hc, e2]
    exact hh.mono fun e w' hk => ⟨_, _, _, hk.1, hk.2 ▸ h, hk.2 ▸ Below.refl _ _⟩
  have hl := h.1
  by_cases a1 : id < 1
  · exact no 2 (by omega) (by unfold QT.addE; rw [if_pos (.inl a1)]) (ref33_Add_arg1 id cl a1 h)
  by_cases a2 : cl < 0
  · exact no 2 (by omega) (by unfold QT.addE; rw [if_pos (.inr (.inl a2))]) (ref33_Add_arg2 id cl (by omega) a2 h)
  by_cases a3 : 64 ≤ cl
  · exact no 2 (by omega) (by unfold QT.addE; rw [if_pos (.inr (.inr a3))]) (ref33_Add_arg3 id cl (by omega) (by omega) (by omega) h)
  have hneg : ¬ (id < 1 ∨ cl < 0 ∨ 64 ≤ cl) := by omega
  by_cases a4 : id ∈ QT.ids T
  · exact no 19 (by omega) (by unfold QT.addE; rw [if_neg hneg, if_pos a4]) (ref33_Add_twice id cl (by omega) (by omega) (by omega) (by unfold QT.place; rw [if_pos a4]; omega) h)
  by_cases a5 : 256 ≤ n
  · exact no 10 (by omega) (by unfold QT.addE; rw [if_neg hneg, if_neg a4, if_pos (by omega)]) (ref33_Add_full id cl (by omega) (by omega) (by omega) (pl_not a4) a5 h)
  · have e1 : QT.addE T id cl = 0 := by unfold QT.addE; rw [if_neg hneg, if_neg a4, if_neg (by omega)]
    have e2 : QT.add T id cl = T ++ [(id, cl)] := by unfold QT.add; rw [e1, if_pos rfl]
    rw [e1, e2]
    exact ref33_Add_ok id cl (by omega) (by omega) (by omega) (pl_not a4) (by omega) hP h
/-- A slice of acts: whether to drop, the ticket, the client. -/
def ActsQ (w : World) (A : Option Addr) (n : Nat) (D : Nat → Bool) (L N : Nat → Int) : Prop :=
  n ≤ 9223372036854775807 ∧ (0 < n → ∃ b off, A = some ⟨b, off, none⟩ ∧ b < w.heap.size ∧ ∀ i, i < n →
    w.cell? ⟨b, off + i * 3, none⟩ = some (.bool (D i)) ∧ w.cell? ⟨b, off + i * 3 + 1, none⟩ = some (.int .i64 (L i)) ∧ w.cell? ⟨b, off + i * 3 + 2, none⟩ = some (.int .i64 (N i)) ∧ BdI (L i))
def ActQ3 (j : Nat) (v : Value) : Prop := if j = 0 then Fr.BoolV v else Fr.IntV v
theorem acts_of_rowsQ (h : Fr.RowsP w 3 ActQ3 A n) : ∃ D L N, ActsQ w A n D L N := by
  by_cases h0 : 0 < n
  · obtain ⟨b, off, rfl, hb, hc⟩ := h.2 h0
    refine ⟨fun i => match w.cell? ⟨b, off + i * 3, none⟩ with | some (.bool d) => d | _ => false, fun i => match w.cell? ⟨b, off + i * 3 + 1, none⟩ with | some (.int _ d) => d | _ => 0, fun i => match w.cell? ⟨b, off + i * 3 + 2, none⟩ with | some (.int _ d) => d | _ => 0, h.1, fun _ => ⟨b, off, rfl, hb, fun i hi => ?_⟩⟩
    obtain ⟨v0, e0, q0⟩ := hc i hi 0 (by omega)
    obtain ⟨v1, e1, q1⟩ := hc i hi 1 (by omega)
    obtain ⟨v2, e2, q2⟩ := hc i hi 2 (by omega)
    rw [Nat.add_zero] at e0
    obtain ⟨d, rfl⟩ : Fr.BoolV v0 := q0
    obtain ⟨x, rfl, x1, x2⟩ : Fr.IntV v1 := q1
    obtain ⟨y, rfl, _⟩ : Fr.IntV v2 := q2
    simp only [e0, e1, e2]
    exact ⟨trivial, trivial, trivial, x1, x2⟩
  · exact ⟨fun _ => false, fun _ => 0, fun _ => 0, h.1, fun hh => absurd hh h0⟩
def QPRel (w : World) (Qb m : Nat) (s8 s9 : Value) (wr : World) : Prop :=
  ∃ (j : Nat) (own : Nat → Prop) (T : List (Int × Int)) (A : Option Addr) (n c : Nat), j ≤ m ∧ s9 = .int .i64 j ∧ s8 = .slice A n c ∧ QOver w wr own Qb T ∧ TAt (fun b => ¬ own b) wr A n c T
set_option maxRecDepth 100000 in
theorem law33_QueuePlays_long (A : Option Addr) (m c : Nat) (id cl : Int) (w : World) (hm : m ≤ 9223372036854775807) (h : (60 : Int) < (m : Int)) :
    Calls Try.prog 9 #[.slice A m c, .int .i64 id, .int .i64 cl] w fun e w' => e = .returned (.bool true) ∧ Below w.heap.size w w' := by
  go_enter Try.func9, Try.ntmps9
  go_wp2_with fail
  refine (law33_works _).mono ?_
  rintro e w1 ⟨rfl, h1⟩
  go_wp2_with fail
  go_ret
  exact ⟨rfl, h1⟩
set_option maxRecDepth 100000 in
set_option maxHeartbeats 8000000 in
theorem law33_QueuePlays_run (A : Option Addr) (m c : Nat) (id cl : Int) (w : World) (D : Nat → Bool) (L N : Nat → Int) (hA : ActsQ w A m D L N) (hm : m ≤ 60) (hid : BdI id) :
    Calls Try.prog 9 #[.slice A m c, .int .i64 id, .int .i64 cl] w fun e w' => e = .returned (.bool true) ∧ Below w.heap.size w w' := by
  have HA := Lib.hid hA
  have HID := Lib.hid hid
  have j1 : (m : Int) ≤ 60 := by omega
  have NN := Lib.hid (q_New w)
  clear hA hid hm
  go_enter Try.func9, Try.ntmps9
  go_wp2_with fail
  refine NN.out.mono ?_
  rintro e w1 ⟨Qb, o1, rfl, h1⟩
  replace h1 := Lib.hid h1
  go_wp2_with fail
  go_loopw [8, 9] (fun s i wr => QPRel w Qb m s i wr) (fun s i _ => m - (intOf i).toNat)
  case atStart => exact ⟨0, o1, [], none, 0, 0, Nat.zero_le _, rfl, rfl, h1.out, TAt.nil⟩
  case round =>
    clear h1 NN
    obtain ⟨j, own, T, A1, n1, c1, hj, rfl, rfl, FO, RI⟩ := hrel
    have g0 : (0 : Int) ≤ (j : Int) := by omega
    by_cases hlt : (j : Int) < m
    · obtain ⟨bA, oA, rfl, hbA, hc⟩ := HA.out.2 (by omega)
      obtain ⟨x0, x1, x2, hbx⟩ := hc j (by omega)
      have bw := FO.below
      have y0 := (bw.cell (p := ⟨bA, oA + j * 3, none⟩) hbA).trans x0
      have y1 := (bw.cell (p := ⟨bA, oA + j * 3 + 1, none⟩) hbA).trans x1
      have y2 := (bw.cell (p := ⟨bA, oA + j * 3 + 2, none⟩) hbA).trans x2
      obtain ⟨d, hd⟩ : ∃ v, D j = v := ⟨_, rfl⟩
      obtain ⟨x, hxv⟩ : ∃ v, L j = v := ⟨_, rfl⟩
      obtain ⟨y, hyv⟩ : ∃ v, N j = v := ⟨_, rfl⟩
      rw [hd] at y0
      rw [hxv] at y1 hbx
      rw [hyv] at y2
      have HX := Lib.hid hbx
      have HJ : Hid (j + 1 ≤ m) := Lib.hid (by omega)
      have HFR : Hid (∀ k, wr.heap.size ≤ k → ¬ own k) := Lib.hid (fun k hk hh => by have := (FO.fresh k hh).2; omega)
      clear x0 x1 x2 hbx hd hxv hyv bw hc
      go_upto_region 12 with (fail)
      refine region_name ?_
      rintro W1 hW1
      obtain ⟨ab, hab⟩ : ∃ ab, wr.heap.size = ab := ⟨_, rfl⟩
      rw [hab] at HFR ⊢
      have b1 : Below wr.heap.size wr W1 := by rw [hW1]; exact (by repeat (first | exact Below.refl _ _ | assumption | refine bel_drew ?_ | refine bel_drewN ?_ _ | refine bel_alloc ?_ _ | refine bel_set ?_ (by first | (dsimp only; omega) | (simp; done) | (simp; omega)) _ | refine bel_trans ?_ (by assumption)))
      have a1 : RowAt W1 ab 84 [.bool d, .int .i64 x, .int .i64 y] := by rw [hW1, ← hab]; exact RowAt.new wr 84 _
      have FO1 := FO.keep b1
      have RI1 := RI.keep b1
      have sz1 : ab < W1.heap.size := a1.lt
      have HPN : Hid (∀ b, W1.heap.size ≤ b → ¬ own b) := Lib.hid (fun b hb => HFR.out b (by omega))
      clear hW1 b1 FO RI y0 y1 y2 hab hj hlt
      have e0 : W1.cell? ⟨ab, 0, none⟩ = some (.bool d) := by rw [a1.cell]; rfl
      have e1 : W1.cell? ⟨ab, 1, none⟩ = some (.int .i64 x) := by rw [a1.cell]; rfl
      have e2 : W1.cell? ⟨ab, 2, none⟩ = some (.int .i64 y) := by rw [a1.cell]; rfl
      cases d
      · focus
          have KR := Lib.hid (ref33_Add x y HPN.out RI1)
          clear RI1
          go_wp2_with fail
          refine KR.out.mono ?_
          rintro e w2 ⟨A2, n2, c2, rfl, RI2, b2⟩
          have FO2 := FO1.keep b2
          have a2 := a1.keep b2
          obtain ⟨T2, hT2⟩ : ∃ l, QT.add T x y = l := ⟨_, rfl⟩
          obtain ⟨code, hcd⟩ : ∃ l, QT.addE T x y = l := ⟨_, rfl⟩
          have KQ := q_Add x y HX.out FO2
          rw [hcd] at KQ ⊢
          rw [hT2] at RI2 KQ
          replace KQ := Lib.hid KQ
          have HFR2 : Hid (¬ own ab) := Lib.hid (HFR.out ab (Nat.le_refl _))
          have z2 := b2.size
          clear KR b2 a1 FO1 hT2 hcd e0 e1 e2 FO2
          have e1 : w2.cell? ⟨ab, 1, none⟩ = some (.int .i64 x) := by rw [a2.cell]; rfl
          have e2 : w2.cell? ⟨ab, 2, none⟩ = some (.int .i64 y) := by rw [a2.cell]; rfl
          go_wp2_with fail
          refine KQ.out.mono ?_
          rintro e w3 ⟨rfl, own', FO3, hc3, ho3⟩
          have RI3 := RI2.step hc3 ho3
          have a3 := a2.of_block (hc3.block ab (by omega) HFR2.out)
          clear KQ e1 e2 a2 RI2 hc3 ho3
          have e1 : w3.cell? ⟨ab, 1, none⟩ = some (.int .i64 x) := by rw [a3.cell]; rfl
          have e2 : w3.cell? ⟨ab, 2, none⟩ = some (.int .i64 y) := by rw [a3.cell]; rfl
          have KS := Lib.hid (law33_same x y HX.out FO3 RI3)
          have F3 := Lib.hid FO3
          have R3 := Lib.hid RI3
          clear FO3 RI3 a3
          go_wp2_with fail
          refine KS.out.mono ?_
          rintro e w4 ⟨rfl, b4⟩
          have F4 := F3.out.keep b4
          have R4 := R3.out.keep b4
          have KS2 := Lib.hid (law33_same id cl HID.out F4 R4)
          replace F4 := Lib.hid F4
          replace R4 := Lib.hid R4
          clear b4 e1 e2 KS F3 R3
          go_wp2_with fail
          refine KS2.out.mono ?_
          rintro e w5 ⟨rfl, b5⟩
          have F5 := Lib.hid (F4.out.keep b5)
          have R5 := Lib.hid (R4.out.keep b5)
          clear b5 KS2 F4 R4
          have hj1 := HJ.out
          have hj2 : (j : Int) + 1 ≤ (m : Int) := by omega
          go_wp2_with fail
          go_roundw
          case rel => exact ⟨j + 1, own', T2, A2, n2, c2, HJ.out, by go_num, rfl, F5.out, R5.out⟩
          case measure => simp [intOf]; omega
      · focus
          have KR := Lib.hid (ref33_Drop x FO1.nodup (by have := RI1.1; have := FO1.len; omega) HPN.out RI1)
          clear RI1
          go_wp2_with fail
          refine KR.out.mono ?_
          rintro e w2 ⟨A2, n2, c2, rfl, RI2, b2⟩
          have FO2 := FO1.keep b2
          have a2 := a1.keep b2
          obtain ⟨T2, hT2⟩ : ∃ l, QT.drop T x = l := ⟨_, rfl⟩
          obtain ⟨code, hcd⟩ : ∃ l, QT.dropE T x = l := ⟨_, rfl⟩
          have KQ := q_Drop x HX.out FO2
          rw [hcd] at KQ ⊢
          rw [hT2] at RI2 KQ
          replace KQ := Lib.hid KQ
          have HFR2 : Hid (¬ own ab) := Lib.hid (HFR.out ab (Nat.le_refl _))
          have z2 := b2.size
          clear KR b2 a1 FO1 hT2 hcd e0 e1 e2 FO2
          have e1 : w2.cell? ⟨ab, 1, none⟩ = some (.int .i64 x) := by rw [a2.cell]; rfl
          have e2 : w2.cell? ⟨ab, 2, none⟩ = some (.int .i64 y) := by rw [a2.cell]; rfl
          go_wp2_with fail
          refine KQ.out.mono ?_
          rintro e w3 ⟨rfl, own', FO3, hc3, ho3⟩
          have RI3 := RI2.step hc3 ho3
          have a3 := a2.of_block (hc3.block ab (by omega) HFR2.out)
          clear KQ e1 e2 a2 RI2 hc3 ho3
          have e1 : w3.cell? ⟨ab, 1, none⟩ = some (.int .i64 x) := by rw [a3.cell]; rfl
          have e2 : w3.cell? ⟨ab, 2, none⟩ = some (.int .i64 y) := by rw [a3.cell]; rfl
          have KS := Lib.hid (law33_same x y HX.out FO3 RI3)
          have F3 := Lib.hid FO3
          have R3 := Lib.hid RI3
          clear FO3 RI3 a3
          go_wp2_with fail
          refine KS.out.mono ?_
          rintro e w4 ⟨rfl, b4⟩
          have F4 := F3.out.keep b4
          have R4 := R3.out.keep b4
          have KS2 := Lib.hid (law33_same id cl HID.out F4 R4)
          replace F4 := Lib.hid F4
          replace R4 := Lib.hid R4
          clear b4 e1 e2 KS F3 R3
          go_wp2_with fail
          refine KS2.out.mono ?_
          rintro e w5 ⟨rfl, b5⟩
          have F5 := Lib.hid (F4.out.keep b5)
          have R5 := Lib.hid (R4.out.keep b5)
          clear b5 KS2 F4 R4
          have hj1 := HJ.out
          have hj2 : (j : Int) + 1 ≤ (m : Int) := by omega
          go_wp2_with fail
          go_roundw
          case rel => exact ⟨j + 1, own', T2, A2, n2, c2, HJ.out, by go_num, rfl, F5.out, R5.out⟩
          case measure => simp [intOf]; omega
    · have HB := Lib.hid FO.below
      clear FO RI
      go_wp2_with fail
      refine (law33_works _).mono ?_
      rintro e w5 ⟨rfl, hb5⟩
      have HE := Lib.hid (bel_trans HB.out hb5)
      clear hb5
      go_wp2_with fail
      go_ret
      exact ⟨rfl, HE.out⟩
theorem law33_QueuePlays (A : Option Addr) (m c : Nat) (id cl : Int) (w : World) (hA : Fr.RowsP w 3 ActQ3 A m) (hid : BdI id) :
    Calls Try.prog 9 #[.slice A m c, .int .i64 id, .int .i64 cl] w fun e w' => e = .returned (.bool true) ∧ Below w.heap.size w w' := by
  obtain ⟨D, L, N, hq⟩ := acts_of_rowsQ hA
  by_cases h1 : 60 < m
  · exact law33_QueuePlays_long A m c id cl w hq.1 (by omega)
  · exact law33_QueuePlays_run A m c id cl w D L N hq (by omega) hid
end Go.Proofs.Ytdhcmnbajkpjiaa
