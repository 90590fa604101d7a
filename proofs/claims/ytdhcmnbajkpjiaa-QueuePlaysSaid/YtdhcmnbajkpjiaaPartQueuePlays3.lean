/- Part 3 of the proof of QueuePlays: lemmas, each with its conditions ahead of it. -/
import Derived.Test.YtdhcmnbajkpjiaaPartQueuePlays2
import Derived.Test.YtdhcmnbajkpjiaaPartQueuePlays1
import Derived.BigQuiet
import Derived.Deep.QuietTactic
import Derived.Deep.Cut
import Derived.Outline
import Derived.WideKeyEntry
/-
  Queue in plain Lean: tickets (id, client, node), one behind the other; what the lists, the map and the slots hold, and what they hold behind a call.
-/
namespace Go.Proofs.Ytdhcmnbajkpjiaa
set_option linter.unusedVariables false
set_option linter.unusedSimpArgs false

theorem map_uniq {α β : Type} {f : α → β} {l : List α} (h : (l.map f).Nodup) {a b : α} (ha : a ∈ l) (hb : b ∈ l) (e : f a = f b) : a = b := by
  induction l with
  | nil => cases ha
  | cons x r ih =>
    rw [List.map_cons, List.nodup_cons] at h
    rcases List.mem_cons.1 ha with rfl | ha'
    · rcases List.mem_cons.1 hb with rfl | hb'
      · rfl
      · exact absurd (List.mem_map.2 ⟨b, hb', e.symm⟩) h.1
    · rcases List.mem_cons.1 hb with rfl | hb'
      · exact absurd (List.mem_map.2 ⟨a, ha', e⟩) h.1
      · exact ih h.2 ha' hb'
structure QSt where
  (ids gens g : List Int) (O cl : List Nat) (fr : Nat) (R1 R2 : Nat → List Nat) (f : Int → Option Int)
/-- The tickets L, and the state that holds them. -/
structure QInv (S : QSt) (L : List (Int × Int × Nat)) : Prop where
  s : SlInv 256 S.O S.cl S.fr
  cnt : S.O.length + S.cl.length = S.fr
  il : S.ids.length = 256
  gl : S.gens.length = 256
  r1 : S.R1 0 = L.map (fun t => t.2.2)
  r2 : ∀ c : Nat, c < 64 → S.R2 c = (L.filter (fun t => decide (t.2.1 = (c : Int)))).map (fun t => t.2.2)
  mem : ∀ p, p ∈ S.O ↔ p ∈ L.map (fun t => t.2.2)
  nd : (L.map (fun t => t.2.2)).Nodup
  ndi : (L.map (fun t => t.1)).Nodup
  ok : ∀ t ∈ L, 1 ≤ t.1 ∧ BdI t.1 ∧ 0 ≤ t.2.1 ∧ t.2.1 < 64
  ids : ∀ t ∈ L, S.ids.getD t.2.2 0 = t.1
  gens : ∀ t ∈ L, S.gens.getD t.2.2 0 = S.g.getD t.2.2 0
  f : ∀ x, S.f x = (L.find? (fun t => decide (t.1 = x))).map (fun t => (t.2.2 : Int))
def QSt.none : QSt := ⟨List.replicate 256 0, List.replicate 256 0, List.replicate 256 0, [], [], 0, PC.none0, PC.none0, fun _ => Option.none⟩
theorem QInv.none : QInv QSt.none [] where
  s := ⟨List.nodup_nil, List.nodup_nil, fun x h => (by cases h), fun x h => (by cases h), (by show 0 ≤ 256; omega), (by omega)⟩
  cnt := rfl
  il := List.length_replicate
  gl := List.length_replicate
  r1 := rfl
  r2 := fun c hc => rfl
  mem := fun p => Iff.rfl
  nd := List.nodup_nil
  ndi := List.nodup_nil
  ok := fun t h => (by cases h)
  ids := fun t h => (by cases h)
  gens := fun t h => (by cases h)
  f := fun x => rfl
variable {S : QSt} {L : List (Int × Int × Nat)}
theorem QInv.olen (h : QInv S L) : S.O.length = L.length := by
  have := ((List.perm_ext_iff_of_nodup h.s.o1 h.nd).2 h.mem).length_eq
  rwa [List.length_map] at this
theorem QInv.full (h : QInv S L) : pickP S.cl S.fr 256 = Option.none ↔ 256 ≤ L.length := by
  have h1 := h.olen
  have h2 := h.cnt
  have h3 := h.s.f1
  unfold pickP
  split
  · exact ⟨fun h => (by cases h), fun h => (by omega)⟩
  · split
    · exact ⟨fun h => (by cases h), fun h => (by omega)⟩
    · exact ⟨fun _ => (by omega), fun _ => rfl⟩
theorem QInv.node_lt (h : QInv S L) {t : Int × Int × Nat} (ht : t ∈ L) : t.2.2 < 256 := by
  have := h.s.o2 _ ((h.mem _).2 (List.mem_map.2 ⟨t, ht, rfl⟩))
  have := h.s.f1
  omega
theorem QInv.find (h : QInv S L) {t : Int × Int × Nat} (ht : t ∈ L) : S.f t.1 = some (t.2.2 : Int) := by
  rw [h.f]
  rcases hf : L.find? (fun u => decide (u.1 = t.1)) with _ | u
  · rw [List.find?_eq_none] at hf
    exact absurd (hf t ht) (by simp)
  · have h1 := List.mem_of_find?_eq_some hf
    have h2 := List.find?_some hf
    simp only [decide_eq_true_eq] at h2
    have : u = t := map_uniq h.ndi h1 ht h2
    rw [hf, this]; rfl
theorem QInv.lost (h : QInv S L) {x : Int} (hx : x ∉ L.map (fun t => t.1)) : S.f x = Option.none := by
  rw [h.f]
  have : L.find? (fun u => decide (u.1 = x)) = Option.none := by
    rw [List.find?_eq_none]
    intro u hu e
    simp only [decide_eq_true_eq] at e
    exact hx (List.mem_map.2 ⟨u, hu, e⟩)
  rw [this]; rfl
theorem QInv.row2 (h : QInv S L) {c p : Nat} (hc : c < 64) : p ∈ S.R2 c ↔ ∃ t ∈ L, t.2.2 = p ∧ t.2.1 = (c : Int) := by
  rw [h.r2 c hc]
  simp only [List.mem_map, List.mem_filter, decide_eq_true_eq]
  constructor
  · rintro ⟨t, ⟨h1, h2⟩, h3⟩; exact ⟨t, h1, h3, h2⟩
  · rintro ⟨t, h1, h3, h2⟩; exact ⟨t, ⟨h1, h2⟩, h3⟩
theorem QInv.out1 (h : QInv S L) {p : Nat} (hp : p ∉ S.O) : PC.ofV 1 S.R1 (p : Int) = -1 := by
  refine PC.ofV_none (PC.rowOf_not (fun i hi hh => ?_))
  obtain rfl : i = 0 := by omega
  have h2 := hh.2
  rw [Int.toNat_natCast, h.r1] at h2
  exact hp ((h.mem p).2 h2)
theorem QInv.out2 (h : QInv S L) {p : Nat} (hp : p ∉ S.O) : PC.ofV 64 S.R2 (p : Int) = -1 := by
  refine PC.ofV_none (PC.rowOf_not (fun i hi hh => ?_))
  have h2 := hh.2
  rw [Int.toNat_natCast, h.row2 hi] at h2
  obtain ⟨t, ht, e, _⟩ := h2
  exact hp ((h.mem p).2 (List.mem_map.2 ⟨t, ht, e⟩))
/-- Behind Add of id by client c, at place p. -/
def QSt.add (S : QSt) (id c : Int) (p : Nat) (cl' : List Nat) (fr' : Nat) : QSt :=
  ⟨S.ids.set p id, S.gens.set p (S.g.getD p 0), S.g, p :: S.O, cl', fr', PC.updR S.R1 0 (S.R1 0 ++ [p]), PC.updR S.R2 c.toNat (S.R2 c.toNat ++ [p]), fun z => if z = id then some (p : Int) else S.f z⟩
theorem QInv.add (h : QInv S L) {id c : Int} {p : Nat} {cl' : List Nat} {fr' : Nat} (hp : pickP S.cl S.fr 256 = some (p, cl', fr')) (h1 : 1 ≤ id) (hb : BdI id) (c0 : 0 ≤ c) (c1 : c < 64) (hn : id ∉ L.map (fun t => t.1)) :
    QInv (S.add id c p cl' fr') (L ++ [(id, c, p)]) := by
  obtain ⟨hs, hno, hpn, hpf⟩ := h.s.pick hp
  have hpL : p ∉ L.map (fun t => t.2.2) := fun hm => hno ((h.mem p).2 hm)
  have hpt : ∀ t ∈ L, t.2.2 ≠ p := fun t ht e => hpL (List.mem_map.2 ⟨t, ht, e⟩)
  have il := h.il
  have gl := h.gl
  refine { s := hs, cnt := ?_, il := by simp [QSt.add, il], gl := by simp [QSt.add, gl], r1 := ?_, r2 := fun d hd => ?_, mem := fun q => ?_, nd := ?_, ndi := ?_, ok := fun t ht => ?_, ids := fun t ht => ?_, gens := fun t ht => ?_, f := fun x => ?_ }
  · have := h.cnt
    unfold pickP at hp
    split at hp
    · injection hp with hp; injection hp with a b; injection b with b d
      subst b; subst d
      show (p :: S.O).length + (S.cl.take (S.cl.length - 1)).length = S.fr
      rw [List.length_cons, List.length_take]
      omega
    · split at hp
      · injection hp with hp; injection hp with a b; injection b with b d
        subst b; subst d
        show (p :: S.O).length + S.cl.length = S.fr + 1
        rw [List.length_cons]
        omega
      · cases hp
  · show PC.updR S.R1 0 (S.R1 0 ++ [p]) 0 = _
    unfold PC.updR
    rw [if_pos rfl, h.r1]
    simp
  · show PC.updR S.R2 c.toNat (S.R2 c.toNat ++ [p]) d = _
    unfold PC.updR
    rw [List.filter_append, List.map_append, ← h.r2 d hd]
    by_cases e : d = c.toNat
    · subst e
      rw [if_pos rfl]
      congr 1
      simp only [List.filter_cons, List.filter_nil]
      rw [if_pos (decide_eq_true (by show c = ((c.toNat : Nat) : Int); omega))]; rfl
    · rw [if_neg e]
      simp only [List.filter_cons, List.filter_nil]
      rw [if_neg (fun hh => e (by have := of_decide_eq_true hh; have : c = (d : Int) := this; omega))]; simp
  · show q ∈ p :: S.O ↔ _
    rw [List.mem_cons, h.mem, List.map_append, List.mem_append]
    simp only [List.map_cons, List.map_nil, List.mem_singleton]
    exact or_comm
  · rw [List.map_append, List.nodup_append]
    exact ⟨h.nd, by simp, fun a ha b hb e => by simp at hb; subst hb; subst e; exact hpL ha⟩
  · rw [List.map_append, List.nodup_append]
    exact ⟨h.ndi, by simp, fun a ha b hb e => by simp at hb; subst hb; subst e; exact hn ha⟩
  · rcases List.mem_append.1 ht with ht | ht
    · exact h.ok t ht
    · obtain rfl := List.mem_singleton.1 ht
      exact ⟨h1, hb, c0, c1⟩
  · show (S.ids.set p id).getD t.2.2 0 = t.1
    rw [getD_setI (by omega)]
    rcases List.mem_append.1 ht with ht | ht
    · rw [if_neg (hpt t ht)]; exact h.ids t ht
    · obtain rfl := List.mem_singleton.1 ht
      rw [if_pos rfl]
  · show (S.gens.set p (S.g.getD p 0)).getD t.2.2 0 = S.g.getD t.2.2 0
    rw [getD_setI (by omega)]
    rcases List.mem_append.1 ht with ht | ht
    · rw [if_neg (hpt t ht)]; exact h.gens t ht
    · obtain rfl := List.mem_singleton.1 ht
      rw [if_pos rfl]
  · show (if x = id then some (p : Int) else S.f x) = _
    rw [List.find?_append]
    by_cases e : x = id
    · subst e
      rw [if_pos rfl]
      have : L.find? (fun t => decide (t.1 = x)) = Option.none := by
        rw [List.find?_eq_none]
        intro u hu e
        simp only [decide_eq_true_eq] at e
        exact hn (List.mem_map.2 ⟨u, hu, e⟩)
      rw [this]
      simp
    · rw [if_neg e, h.f]
      have : ([(id, c, p)] : List (Int × Int × Nat)).find? (fun t => decide (t.1 = x)) = Option.none := by
        simp [show ¬ id = x from fun e' => e e'.symm]
      rw [this, Option.or_none]
/-- Behind Drop of the ticket (id, c, p). -/
def QSt.drop (S : QSt) (id : Int) (p : Nat) : QSt :=
  ⟨S.ids, S.gens, S.g.set p (IntKind.i64.wrap (S.g.getD p 0 + 1)), S.O.erase p, S.cl ++ [p], S.fr, PC.dropR 1 S.R1 (p : Int), PC.dropR 64 S.R2 (p : Int), fun z => if z = id then Option.none else S.f z⟩
theorem QInv.row1_of (h : QInv S L) {t : Int × Int × Nat} (ht : t ∈ L) : PC.rowOf 1 S.R1 (t.2.2 : Int) = some 0 :=
  PC.rowOf_first (by omega) (by omega) (by rw [Int.toNat_natCast, h.r1]; exact List.mem_map.2 ⟨t, ht, rfl⟩) (fun j hj => by omega)
theorem QInv.uniq (h : QInv S L) {t u : Int × Int × Nat} (ht : t ∈ L) (hu : u ∈ L) (e : t.2.2 = u.2.2) : t = u := map_uniq h.nd ht hu e
theorem QInv.uniqI (h : QInv S L) {t u : Int × Int × Nat} (ht : t ∈ L) (hu : u ∈ L) (e : t.1 = u.1) : t = u := map_uniq h.ndi ht hu e
theorem QInv.row2_of (h : QInv S L) {t : Int × Int × Nat} (ht : t ∈ L) : PC.rowOf 64 S.R2 (t.2.2 : Int) = some t.2.1.toNat := by
  obtain ⟨-, -, c0, c1⟩ := h.ok t ht
  refine PC.rowOf_first (by omega) (by omega) ?_ (fun j hj hm => ?_)
  · rw [Int.toNat_natCast, h.row2 (by omega)]
    exact ⟨t, ht, rfl, by omega⟩
  · rw [Int.toNat_natCast, h.row2 (by omega)] at hm
    obtain ⟨u, hu, e1, e2⟩ := hm
    have := h.uniq hu ht e1
    subst this
    omega
theorem filter_cut {l : List (Int × Int × Nat)} (hn : (l.map (fun t => t.2.2)).Nodup) {t : Int × Int × Nat} (ht : ∀ u ∈ l, u.2.2 = t.2.2 → u.1 = t.1) (hi : ∀ u ∈ l, u.1 = t.1 → u.2.2 = t.2.2) : PC.cut (l.map (fun t => t.2.2)) t.2.2 = (l.filter (fun u => decide (u.1 ≠ t.1))).map (fun t => t.2.2) := by
  have e1 : PC.cut (l.map (fun t => t.2.2)) t.2.2 = (l.map (fun t => t.2.2)).filter (fun y => y != t.2.2) := by
    unfold PC.cut
    rw [← hn.erase_eq_filter, List.erase_eq_eraseIdx_of_idxOf (i := (l.map (fun t => t.2.2)).idxOf t.2.2) rfl, List.eraseIdx_eq_take_drop_succ]
  rw [e1, List.filter_map]
  congr 1
  refine List.filter_congr (fun u hu => ?_)
  by_cases e : u.1 = t.1
  · have e3 := hi u hu e
    simp [e, e3]
  · have : u.2.2 ≠ t.2.2 := fun e' => e (ht u hu e')
    simp [e, this]
theorem QInv.drop (h : QInv S L) {t : Int × Int × Nat} (ht : t ∈ L) : QInv (S.drop t.1 t.2.2) (L.filter (fun u => decide (u.1 ≠ t.1))) := by
  have hO : t.2.2 ∈ S.O := (h.mem _).2 (List.mem_map.2 ⟨t, ht, rfl⟩)
  have hin : ∀ u, u ∈ L.filter (fun u => decide (u.1 ≠ t.1)) ↔ u ∈ L ∧ u ≠ t := fun u => by
    rw [List.mem_filter]
    simp only [decide_eq_true_eq]
    exact ⟨fun hh => ⟨hh.1, fun e => hh.2 (by rw [e])⟩, fun hh => ⟨hh.1, fun e => hh.2 (h.uniqI hh.1 ht e)⟩⟩
  have hcut := filter_cut (l := L) h.nd (t := t) (fun u hu e => by rw [h.uniq hu ht e]) (fun u hu e => by rw [h.uniqI hu ht e])
  obtain ⟨-, -, c0, c1⟩ := h.ok t ht
  refine { s := h.s.close hO, cnt := ?_, il := h.il, gl := h.gl, r1 := ?_, r2 := fun d hd => ?_, mem := fun q => ?_, nd := ?_, ndi := ?_, ok := fun u hu => h.ok u ((hin u).1 hu).1, ids := fun u hu => h.ids u ((hin u).1 hu).1, gens := fun u hu => ?_, f := fun x => ?_ }
  · show (S.O.erase t.2.2).length + (S.cl ++ [t.2.2]).length = S.fr
    have := h.cnt
    have h0 : 0 < S.O.length := List.length_pos_of_mem hO
    rw [List.length_erase_of_mem hO, List.length_append]
    simp only [List.length_cons, List.length_nil]
    omega
  · show PC.dropR 1 S.R1 (t.2.2 : Int) 0 = _
    unfold PC.dropR
    rw [h.row1_of ht]
    show PC.updR S.R1 0 (PC.cut (S.R1 0) ((t.2.2 : Int)).toNat) 0 = _
    unfold PC.updR
    rw [if_pos rfl, h.r1, Int.toNat_natCast, hcut]
  · show PC.dropR 64 S.R2 (t.2.2 : Int) d = _
    unfold PC.dropR
    rw [h.row2_of ht]
    show PC.updR S.R2 t.2.1.toNat (PC.cut (S.R2 t.2.1.toNat) ((t.2.2 : Int)).toNat) d = _
    unfold PC.updR
    rw [List.filter_filter]
    by_cases e : d = t.2.1.toNat
    · subst e
      rw [if_pos rfl, h.r2 _ hd, Int.toNat_natCast, filter_cut (t := t) (List.Nodup.sublist (List.Sublist.map _ List.filter_sublist) h.nd) (fun u hu e => by rw [h.uniq (List.mem_filter.1 hu).1 ht e]) (fun u hu e => by rw [h.uniqI (List.mem_filter.1 hu).1 ht e]), List.filter_filter]
      congr 1
      refine List.filter_congr (fun u hu => ?_)
      rw [Bool.and_comm]
    · rw [if_neg e, h.r2 d hd]
      congr 1
      refine List.filter_congr (fun u hu => ?_)
      by_cases e2 : u.2.1 = (d : Int)
      · have : u.1 ≠ t.1 := fun e3 => e (by rw [h.uniqI hu ht e3] at e2; omega)
        simp [e2, this]
      · simp [e2]
  · show q ∈ S.O.erase t.2.2 ↔ _
    rw [h.s.o1.mem_erase_iff, h.mem, List.mem_map, List.mem_map]
    constructor
    · rintro ⟨h1, u, hu, rfl⟩
      exact ⟨u, (hin u).2 ⟨hu, fun e => h1 (by rw [e])⟩, rfl⟩
    · rintro ⟨u, hu, rfl⟩
      have := (hin u).1 hu
      exact ⟨fun e => this.2 (h.uniq this.1 ht e), u, this.1, rfl⟩
  · exact List.Nodup.sublist (List.Sublist.map _ List.filter_sublist) h.nd
  · exact List.Nodup.sublist (List.Sublist.map _ List.filter_sublist) h.ndi
  · have hu' := (hin u).1 hu
    have hne : u.2.2 ≠ t.2.2 := fun e => hu'.2 (h.uniq hu'.1 ht e)
    show S.gens.getD u.2.2 0 = (S.g.set t.2.2 (IntKind.i64.wrap (S.g.getD t.2.2 0 + 1))).getD u.2.2 0
    rw [h.gens u hu'.1]
    simp [List.getD, List.getElem?_set, show ¬ t.2.2 = u.2.2 from fun e => hne e.symm]
  · show (if x = t.1 then Option.none else S.f x) = _
    by_cases e : x = t.1
    · subst e
      rw [if_pos rfl]
      have : (L.filter (fun u => decide (u.1 ≠ t.1))).find? (fun u => decide (u.1 = t.1)) = Option.none := by
        rw [List.find?_eq_none]
        intro u hu e
        have := (List.mem_filter.1 hu).2
        simp only [decide_eq_true_eq] at this e
        exact this e
      rw [this]; rfl
    · rw [if_neg e, h.f, List.find?_filter]
      congr 2
      funext u
      by_cases e2 : u.1 = x
      · simp [e2, e]
      · simp [e2]
end Go.Proofs.Ytdhcmnbajkpjiaa
/-
  Queue in plain Lean: what is told, of the tickets (id, client) alone.
-/
namespace Go.Proofs.Ytdhcmnbajkpjiaa
set_option linter.unusedVariables false
set_option linter.unusedSimpArgs false

namespace QT
def ids (T : List (Int × Int)) : List Int := T.map (fun t => t.1)
def place (T : List (Int × Int)) (x : Int) : Int := if x ∈ ids T then (((ids T).idxOf x : Nat) : Int) else -1
def addE (T : List (Int × Int)) (id c : Int) : Int := if id < 1 ∨ c < 0 ∨ 64 ≤ c then 2 else if id ∈ ids T then 19 else if 256 ≤ T.length then 10 else 0
def add (T : List (Int × Int)) (id c : Int) : List (Int × Int) := if addE T id c = 0 then T ++ [(id, c)] else T
def dropE (T : List (Int × Int)) (id : Int) : Int := if id ∈ ids T then 0 else 12
def drop (T : List (Int × Int)) (id : Int) : List (Int × Int) := T.filter (fun t => decide (t.1 ≠ id))
def first (T : List (Int × Int)) : Int := (ids T).headD 0
def next (T : List (Int × Int)) (x : Int) : Int := if x ∈ ids T then ((ids T).drop ((ids T).idxOf x + 1)).headD 0 else 0
def of (T : List (Int × Int)) (c : Int) : List Int := (T.filter (fun t => decide (t.2 = c))).map (fun t => t.1)
def client (T : List (Int × Int)) (x : Int) : Int := match T.find? (fun t => decide (t.1 = x)) with | some t => t.2 | none => -1
end QT
theorem idx_nodup {α : Type} [BEq α] [LawfulBEq α] {l : List α} (h : l.Nodup) {i : Nat} (hi : i < l.length) : l.idxOf l[i] = i := by
  have hm : l[i] ∈ l := List.getElem_mem hi
  have hl := List.idxOf_lt_length_iff.2 hm
  have h1 : l[l.idxOf l[i]] = l[i] := List.getElem_idxOf hl
  have hp := List.pairwise_iff_getElem.1 h
  rcases Nat.lt_trichotomy (l.idxOf l[i]) i with h2 | h2 | h2
  · exact absurd h1 (hp _ _ hl hi h2)
  · exact h2
  · exact absurd h1.symm (hp _ _ hi hl h2)
def tick (L : List (Int × Int × Nat)) : List (Int × Int) := L.map (fun t => (t.1, t.2.1))
theorem tick_ids (L : List (Int × Int × Nat)) : QT.ids (tick L) = L.map (fun t => t.1) := by simp [QT.ids, tick]
variable {S : QSt} {L : List (Int × Int × Nat)}
theorem idV_node (h : QInv S L) {t : Int × Int × Nat} (ht : t ∈ L) : (if ((t.2.2 : Nat) : Int) < 0 then 0 else S.ids.getD ((t.2.2 : Nat) : Int).toNat 0) = t.1 := by
  rw [if_neg (by omega), Int.toNat_natCast]
  exact h.ids t ht
/-- The ticket of the first node of some tickets. -/
theorem idV_head (h : QInv S L) {M : List (Int × Int × Nat)} (hM : ∀ t ∈ M, t ∈ L) : (if PC.headD (M.map (fun t => t.2.2)) < 0 then 0 else S.ids.getD (PC.headD (M.map (fun t => t.2.2))).toNat 0) = (M.map (fun t => t.1)).headD 0 := by
  cases M with
  | nil => rfl
  | cons t r =>
    rw [List.map_cons, PC.headD_cons, idV_node h (hM t List.mem_cons_self)]
    rfl
theorem head_lt (h : QInv S L) {M : List (Int × Int × Nat)} (hM : ∀ t ∈ M, t ∈ L) : PC.headD (M.map (fun t => t.2.2)) < 256 := by
  cases M with
  | nil => show (-1 : Int) < 256; omega
  | cons t r =>
    rw [List.map_cons, PC.headD_cons]
    have := h.node_lt (hM t List.mem_cons_self)
    omega
theorem row1_eq (h : QInv S L) : PC.rowV 1 S.R1 0 = L.map (fun t => t.2.2) := by
  unfold PC.rowV
  rw [if_pos (by omega)]
  exact h.r1
theorem row2_eq (h : QInv S L) (c : Int) : PC.rowV 64 S.R2 c = (L.filter (fun t => decide (t.2.1 = c))).map (fun t => t.2.2) := by
  unfold PC.rowV
  by_cases hc : 0 ≤ c ∧ c < (64 : Nat)
  · rw [if_pos hc, h.r2 _ (by omega)]
    congr 1
    refine List.filter_congr (fun t _ => ?_)
    rw [Int.toNat_of_nonneg hc.1]
  · rw [if_neg hc]
    have : L.filter (fun t => decide (t.2.1 = c)) = [] := by
      rw [List.filter_eq_nil_iff]
      intro t ht e
      have h1 := h.ok t ht
      have e' : t.2.1 = c := of_decide_eq_true e
      exact hc (by omega)
    rw [this]; rfl
theorem of_eq (L : List (Int × Int × Nat)) (c : Int) : QT.of (tick L) c = (L.filter (fun t => decide (t.2.1 = c))).map (fun t => t.1) := by
  unfold QT.of tick
  rw [List.filter_map, List.map_map]
  rfl
theorem mem_ids {x : Int} : x ∈ QT.ids (tick L) ↔ ∃ t ∈ L, t.1 = x := by
  rw [tick_ids, List.mem_map]
theorem idx_of (h : QInv S L) {i : Nat} (hi : i < L.length) : (QT.ids (tick L)).idxOf (L[i]).1 = i := by
  rw [tick_ids]
  have := idx_nodup h.ndi (i := i) (by simpa using hi)
  simpa using this
theorem idx_node (h : QInv S L) {i : Nat} (hi : i < L.length) : (L.map (fun t => t.2.2)).idxOf (L[i]).2.2 = i := by
  have := idx_nodup h.nd (i := i) (by simpa using hi)
  simpa using this
theorem next_eq (h : QInv S L) {i : Nat} (hi : i < L.length) : PC.nextV 1 S.R1 (((L[i]).2.2 : Nat) : Int) = PC.headD ((L.drop (i + 1)).map (fun t => t.2.2)) := by
  unfold PC.nextV
  rw [h.row1_of (List.getElem_mem hi)]
  show PC.headD ((S.R1 0).drop ((S.R1 0).idxOf (((L[i]).2.2 : Nat) : Int).toNat + 1)) = _
  rw [Int.toNat_natCast, h.r1, idx_node h hi, List.map_drop]
theorem client_eq (h : QInv S L) {t : Int × Int × Nat} (ht : t ∈ L) : QT.client (tick L) t.1 = t.2.1 := by
  have h1 : (tick L).find? (fun u => decide (u.1 = t.1)) = some (t.1, t.2.1) := by
    unfold tick
    rw [List.find?_map]
    have h2 : L.find? ((fun u : Int × Int => decide (u.1 = t.1)) ∘ fun t => (t.1, t.2.1)) = some t := by
      have h3 : L.find? (fun u => decide (u.1 = t.1)) = some t := by
        rcases hf : L.find? (fun u => decide (u.1 = t.1)) with _ | u
        · rw [List.find?_eq_none] at hf
          exact absurd (hf t ht) (by simp)
        · rw [hf]
          have h4 := List.mem_of_find?_eq_some hf
          have h5 := List.find?_some hf
          simp only [decide_eq_true_eq] at h5
          rw [h.uniqI h4 ht h5]
      exact h3
    rw [h2]; rfl
  unfold QT.client
  rw [h1]
theorem client_no {x : Int} (hx : x ∉ QT.ids (tick L)) : QT.client (tick L) x = -1 := by
  have h1 : (tick L).find? (fun u => decide (u.1 = x)) = none := by
    rw [List.find?_eq_none]
    intro u hu e
    simp only [decide_eq_true_eq] at e
    exact hx (by unfold QT.ids; exact List.mem_map.2 ⟨u, hu, e⟩)
  unfold QT.client
  rw [h1]
theorem drop_eq (L : List (Int × Int × Nat)) (id : Int) : QT.drop (tick L) id = tick (L.filter (fun t => decide (t.1 ≠ id))) := by
  unfold QT.drop tick
  rw [List.filter_map]
  rfl
theorem ids_of (h : QInv S L) {M : List (Int × Int × Nat)} (hM : ∀ t ∈ M, t ∈ L) : (M.map (fun t => t.2.2)).map (fun p => S.ids.getD p 0) = M.map (fun t => t.1) := by
  rw [List.map_map]
  exact List.map_congr_left (fun t ht => h.ids t (hM t ht))
theorem QInv.len (h : QInv S L) : L.length ≤ 256 := by
  have h1 := h.olen
  have h2 := h.cnt
  have h3 := h.s.f1
  omega
end Go.Proofs.Ytdhcmnbajkpjiaa
/-
  Chapter 33's reference: slices of tickets in memory; Place, Of, First, Next.
-/
namespace Go.Proofs.Ytdhcmnbajkpjiaa
open Go.RowKit
open Go.Maps
set_option linter.unusedVariables false
set_option linter.unusedSimpArgs false
attribute [local go_sem] drewN_alloc drewN_setCell

def cellsT (l : List (Int × Int)) : List Value := l.flatMap fun s => [.int .i64 s.1, .int .i64 s.2]
theorem cellsT_len (l : List (Int × Int)) : (cellsT l).length = l.length * 2 := by
  induction l with
  | nil => rfl
  | cons s l ih => simp only [cellsT, List.flatMap_cons, List.length_append, List.length_cons, List.length_nil] at *; omega
theorem cellsT_append (l m : List (Int × Int)) : cellsT (l ++ m) = cellsT l ++ cellsT m := by simp [cellsT]
theorem cellsT_get {l : List (Int × Int)} : ∀ {k : Nat} (h : k < l.length), (cellsT l)[k * 2]? = some (.int .i64 (l[k]).1) ∧ (cellsT l)[k * 2 + 1]? = some (.int .i64 (l[k]).2) := by
  induction l with
  | nil => intro k h; simp at h
  | cons s l ih =>
    intro k h
    have e : cellsT (s :: l) = .int .i64 s.1 :: .int .i64 s.2 :: cellsT l := by simp [cellsT]
    rw [e]
    cases k with
    | zero => simp
    | succ k =>
      have := ih (k := k) (by simpa using h)
      rw [show (k + 1) * 2 = k * 2 + 1 + 1 by omega]
      simpa using this
theorem cellsT_one' (l : List (Int × Int)) : ∀ u ∈ cellsT l, u.oneCell' = true := by
  intro u hu
  simp only [cellsT, List.mem_flatMap, List.mem_cons, List.not_mem_nil, or_false] at hu
  obtain ⟨s, _, rfl | rfl⟩ := hu <;> simp [Value.oneCell']
theorem cellsT_take (l : List (Int × Int)) : ∀ k, (cellsT l).take (k * 2) = cellsT (l.take k) := by
  induction l with
  | nil => intro k; simp [cellsT]
  | cons s l ih =>
    intro k
    have e : cellsT (s :: l) = .int .i64 s.1 :: .int .i64 s.2 :: cellsT l := by simp [cellsT]
    cases k with
    | zero => simp [cellsT]
    | succ k =>
      rw [e, show (k + 1) * 2 = k * 2 + 1 + 1 by omega, List.take_succ_cons, List.take_succ_cons, ih k, List.take_succ_cons]
      simp [cellsT]
theorem cellsT_drop (l : List (Int × Int)) : ∀ k, (cellsT l).drop (k * 2) = cellsT (l.drop k) := by
  induction l with
  | nil => intro k; simp [cellsT]
  | cons s l ih =>
    intro k
    have e : cellsT (s :: l) = .int .i64 s.1 :: .int .i64 s.2 :: cellsT l := by simp [cellsT]
    cases k with
    | zero => simp
    | succ k =>
      rw [e, show (k + 1) * 2 = k * 2 + 1 + 1 by omega, List.drop_succ_cons, List.drop_succ_cons, ih k, List.drop_succ_cons]
/-- v is a slice of tickets that reads as T, in a block of P. -/
def TAt (P : Nat → Prop) (w : World) (A : Option Addr) (n c : Nat) (T : List (Int × Int)) : Prop :=
  T.length = n ∧ n ≤ c ∧ c ≤ 9223372036854775807 ∧ (0 < n → ∃ b off, A = some ⟨b, off, none⟩ ∧ P b ∧ b < w.heap.size ∧ ∀ i u, (cellsT T)[i]? = some u → w.cell? ⟨b, off + i, none⟩ = some u)
variable {P P' : Nat → Prop} {w w' : World} {A : Option Addr} {n c : Nat} {T : List (Int × Int)}
theorem TAt.nil : TAt P w none 0 0 [] := ⟨rfl, Nat.le_refl _, by omega, fun h => absurd h (by omega)⟩
theorem TAt.mono (h : TAt P w A n c T) (hp : ∀ b, b < w.heap.size → P b → P' b) : TAt P' w A n c T :=
  ⟨h.1, h.2.1, h.2.2.1, fun h0 => by obtain ⟨b, off, e, h1, h2, h3⟩ := h.2.2.2 h0; exact ⟨b, off, e, hp b h2 h1, h2, h3⟩⟩
theorem TAt.blocks (h : TAt P w A n c T) (hs : w.heap.size ≤ w'.heap.size) (hb : ∀ b, b < w.heap.size → P b → w'.heap[b]? = w.heap[b]?) : TAt P w' A n c T :=
  ⟨h.1, h.2.1, h.2.2.1, fun h0 => by
    obtain ⟨b, off, e, h1, h2, h3⟩ := h.2.2.2 h0
    exact ⟨b, off, e, h1, Nat.lt_of_lt_of_le h2 hs, fun i u hu => (World.cell?_of_block (w := w) (hb b h2 h1)).trans (h3 i u hu)⟩⟩
theorem TAt.keep (h : TAt P w A n c T) (hb : Below w.heap.size w w') : TAt P w' A n c T := h.blocks hb.size (fun b h1 _ => hb.block b h1)
theorem TAt.at (h : TAt P w A n c T) {i : Nat} (hi : i < T.length) : ∃ b off, A = some ⟨b, off, none⟩ ∧ b < w.heap.size ∧ w.cell? ⟨b, off + i * 2, none⟩ = some (.int .i64 (T[i]).1) ∧ w.cell? ⟨b, off + i * 2 + 1, none⟩ = some (.int .i64 (T[i]).2) := by
  obtain ⟨b, off, e, _, h1, h2⟩ := h.2.2.2 (by have := h.1; omega)
  have h3 := cellsT_get hi
  exact ⟨b, off, e, h1, h2 _ _ h3.1, by have := h2 _ _ h3.2; rwa [← Nat.add_assoc] at this⟩
theorem TAt.src (h : TAt P w A n c T) : SrcS 2 w A n (cellsT T) := by
  refine ⟨by rw [cellsT_len, h.1], fun e => ?_, fun ad e j u hu => ?_⟩
  · rcases Nat.eq_zero_or_pos n with h0 | h0
    · exact h0
    · obtain ⟨b, off, e2, _⟩ := h.2.2.2 h0; rw [e] at e2; cases e2
  · have hj : j < (cellsT T).length := by
      rcases Nat.lt_or_ge j (cellsT T).length with h1 | h1
      · exact h1
      · rw [List.getElem?_eq_none h1] at hu; cases hu
    obtain ⟨b, off, e2, _, _, h3⟩ := h.2.2.2 (by have := h.1; rw [cellsT_len] at hj; omega)
    rw [e2] at e; cases e
    rw [addr_addS]
    exact h3 j u hu
def PlRel (T : List (Int × Int)) (x : Int) (i : Value) : Prop := ∃ k : Nat, k ≤ T.length ∧ i = .int .i64 k ∧ ∀ j (hj : j < T.length), j < k → (T[j]).1 ≠ x
theorem ids_get {k : Nat} (hk : k < T.length) (hk2 : k < (QT.ids T).length) : (QT.ids T)[k] = (T[k]).1 := by simp [QT.ids]
theorem pl_some {x : Int} {k : Nat} (hk : k < T.length) (h : (T[k]).1 = x) (hf : ∀ j (hj : j < T.length), j < k → (T[j]).1 ≠ x) : QT.place T x = k := by
  have hm : x ∈ QT.ids T := by rw [← h]; exact List.mem_map.2 ⟨_, List.getElem_mem hk, rfl⟩
  unfold QT.place
  rw [if_pos hm]
  have hl := List.idxOf_lt_length_iff.2 hm
  have h1 : (QT.ids T)[(QT.ids T).idxOf x] = x := List.getElem_idxOf hl
  have hl2 : (QT.ids T).idxOf x < T.length := by simpa [QT.ids] using hl
  have h2 : (T[(QT.ids T).idxOf x]).1 = x := by
    exact (ids_get hl2 hl).symm.trans h1
  rcases Nat.lt_trichotomy ((QT.ids T).idxOf x) k with h3 | h3 | h3
  · exact absurd h2 (hf _ hl2 h3)
  · rw [h3]
  · exfalso
    have h4 : (QT.ids T).idxOf x ≤ k := by
      have h5 : (QT.ids T).take k ++ (QT.ids T)[k]'(by simpa [QT.ids] using hk) :: (QT.ids T).drop (k + 1) = QT.ids T := by rw [← List.drop_eq_getElem_cons, List.take_append_drop]
      have h6 : (QT.ids T)[k]'(by simpa [QT.ids] using hk) = x := by rw [← h]; simp [QT.ids]
      rw [h6] at h5
      have h7 : ((QT.ids T).take k ++ x :: (QT.ids T).drop (k + 1)).idxOf x ≤ k := by
        rw [List.idxOf_append]
        split
        · have := List.idxOf_lt_length_iff.2 ‹x ∈ (QT.ids T).take k›
          simp at this; omega
        · simp
          omega
      rw [h5] at h7
      exact h7
    omega
theorem pl_none {x : Int} (hf : ∀ j (hj : j < T.length), (T[j]).1 ≠ x) : QT.place T x = -1 := by
  unfold QT.place
  rw [if_neg]
  intro hm
  unfold QT.ids at hm
  obtain ⟨t, ht, e⟩ := List.mem_map.1 hm
  obtain ⟨j, hj, rfl⟩ := List.mem_iff_getElem.1 ht
  exact hf j hj e
theorem ref33_Place (x : Int) (h : TAt P w A n c T) : Calls Try.prog 124 #[.slice A n c, .int .i64 x] w fun e w' => e = .returned (.int .i64 (QT.place T x)) ∧ w = w' := by
  have hl := h.1
  subst hl
  have hm : T.length ≤ 9223372036854775807 := Nat.le_trans h.2.1 h.2.2.1
  have H := Lib.hid h
  obtain ⟨p, hp⟩ : ∃ p, QT.place T x = p := ⟨_, rfl⟩
  rw [hp]
  have HP := Lib.hid hp
  clear h hp
  go_enter Try.func124, Try.ntmps124
  go_wp2_with fail
  go_loop [5] (fun i => PlRel T x i) (fun i => T.length - (intOf i).toNat)
  case atStart => exact ⟨0, Nat.zero_le _, rfl, fun j hj h => absurd h (by omega)⟩
  case round =>
    obtain ⟨k, hk, rfl, hf⟩ := hrel
    have HF := Lib.hid hf
    clear hf
    have g0 : (0 : Int) ≤ (k : Int) := by omega
    by_cases hlt : k < T.length
    · have hlt' : (k : Int) < (T.length : Int) := by omega
      obtain ⟨b, off, rfl, hb, x0, -⟩ := H.out.at hlt
      obtain ⟨v, hv⟩ : ∃ v, (T[k]).1 = v := ⟨_, rfl⟩
      rw [hv] at x0
      by_cases hvx : v = x
      · have e := pl_some hlt (by rw [hv]; exact hvx) HF.out
        rw [HP.out] at e
        have E := Lib.hid e
        have e1 : (v == x) = true := by simpa using hvx
        clear e hvx hv
        go_wp2_with fail
        go_ret
        exact ⟨ret_int E.out.symm, rfl⟩
      · have e1 : (v == x) = false := by simpa using hvx
        have HV := Lib.hid hv
        have HX := Lib.hid hvx
        clear hv hvx
        go_wp2_with fail
        go_round
        case rel =>
          refine ⟨k + 1, by omega, by go_num, fun j hj hjk => ?_⟩
          by_cases e : j = k
          · subst e; rw [HV.out]; exact HX.out
          · exact HF.out j hj (by omega)
        case measure => simp [intOf]; omega
    · have hkn : k = T.length := by omega
      have e := pl_none (fun j hj => HF.out j hj (by omega))
      rw [HP.out] at e
      have E := Lib.hid e
      clear e hkn
      go_wp2_with fail
      go_ret
      exact ⟨ret_int E.out.symm, rfl⟩
theorem ref33_First {l : List Int} (h : IntsAt w A n l) : Calls Try.prog 130 #[.slice A n c] w fun e w' => e = .returned (.int .i64 (l.headD 0)) ∧ w = w' := by
  have hl := h.1
  subst hl
  cases l with
  | nil =>
    clear h
    go_enter Try.func130, Try.ntmps130
    go_wp2_with fail
    go_ret
    exact ⟨rfl, rfl⟩
  | cons x l =>
    obtain ⟨b, off, rfl, hb, hc⟩ := h.2.2 (by simp)
    have x0 := hc 0 (by simp)
    have e : (x :: l).getD 0 0 = x := rfl
    rw [e, Nat.add_zero] at x0
    obtain ⟨m, hm⟩ : ∃ m, (x :: l).length = m := ⟨_, rfl⟩
    rw [hm]
    have hm0 : 0 < m := by rw [← hm]; simp
    have j0 : ¬ (m : Int) = 0 := by omega
    have j1 : ((m : Int) == 0) = false := by simpa using j0
    have j2 : (0 : Int) < (m : Int) := by omega
    clear h hc e hb hm
    go_enter Try.func130, Try.ntmps130
    go_wp2_with fail
    go_ret
    exact ⟨rfl, rfl⟩
theorem ref33_Next (x : Int) (h : TAt P w A n c T) (hn : n ≤ 100000) : Calls Try.prog 129 #[.slice A n c, .int .i64 x] w fun e w' => e = .returned (.int .i64 (QT.next T x)) ∧ w = w' := by
  have K := ref33_Place x h
  have hl := h.1
  by_cases hx : x ∈ QT.ids T
  · have hi := List.idxOf_lt_length_iff.2 hx
    obtain ⟨k, hk⟩ : ∃ k, (QT.ids T).idxOf x = k := ⟨_, rfl⟩
    have e1 : QT.place T x = (k : Int) := by unfold QT.place; rw [if_pos hx, hk]
    have e2 : QT.next T x = ((QT.ids T).drop (k + 1)).headD 0 := by unfold QT.next; rw [if_pos hx, hk]
    have hil : (QT.ids T).length = n := by rw [← hl]; simp [QT.ids]
    rw [hk, hil] at hi
    rw [e1] at K
    rw [e2]
    replace K := Lib.hid K
    have g0 : (0 : Int) ≤ (k : Int) := by omega
    have g1 : decide ((k : Int) < 0) = false := decide_eq_false (by omega)
    have g2 : ¬ (k : Int) < 0 := by omega
    by_cases hlt : k + 1 < n
    · have e3 : ((QT.ids T).drop (k + 1)).headD 0 = (QT.ids T)[k + 1]'(by omega) := by rw [List.drop_eq_getElem_cons (by omega)]; rfl
      obtain ⟨b, off, rfl, hb, x0, -⟩ := h.at (i := k + 1) (by omega)
      have e4 : (QT.ids T)[k + 1]'(by omega) = (T[k + 1]'(by omega)).1 := by simp [QT.ids]
      rw [e3, e4]
      obtain ⟨v, hv⟩ : ∃ v, (T[k + 1]'(by omega)).1 = v := ⟨_, rfl⟩
      rw [hv] at x0 ⊢
      have g3 : (k : Int) + 1 < (n : Int) := by omega
      have g4 : decide ((n : Int) ≤ (k : Int) + 1) = false := decide_eq_false (by omega)
      have g5 : (0 : Int) ≤ (k : Int) + 1 := by omega
      have g6 : ((k : Int) + 1).toNat = k + 1 := by omega
      have g7 : (k : Int) + 1 ≤ 100000 := by omega
      clear h hx hk e1 e2 e3 e4 hv hl hil hi
      go_enter Try.func129, Try.ntmps129
      go_wp2_with fail
      refine K.out.mono ?_
      rintro e w1 ⟨rfl, rfl⟩
      go_wp2_with fail
      go_ret
      exact ⟨rfl, rfl⟩
    · have e3 : ((QT.ids T).drop (k + 1)).headD 0 = 0 := by rw [List.drop_eq_nil_of_le (by omega)]; rfl
      rw [e3]
      have g4 : decide ((n : Int) ≤ (k : Int) + 1) = true := decide_eq_true (by omega)
      have g7 : (k : Int) + 1 ≤ 100000 := by omega
      clear h hx hk e1 e2 e3 hl hil hi
      go_enter Try.func129, Try.ntmps129
      go_wp2_with fail
      refine K.out.mono ?_
      rintro e w1 ⟨rfl, rfl⟩
      go_wp2_with fail
      go_ret
      exact ⟨rfl, rfl⟩
  · have e1 : QT.place T x = -1 := by unfold QT.place; rw [if_neg hx]
    have e2 : QT.next T x = 0 := by unfold QT.next; rw [if_neg hx]
    rw [e1] at K
    rw [e2]
    replace K := Lib.hid K
    clear h hx e1 e2
    go_enter Try.func129, Try.ntmps129
    go_wp2_with fail
    refine K.out.mono ?_
    rintro e w1 ⟨rfl, rfl⟩
    go_wp2_with fail
    go_ret
    exact ⟨rfl, rfl⟩
end Go.Proofs.Ytdhcmnbajkpjiaa
/-
  Chapter 33's reference: Of, Add, Drop.
-/
namespace Go.Proofs.Ytdhcmnbajkpjiaa
open Go.RowKit
open Go.Maps
set_option linter.unusedVariables false
set_option linter.unusedSimpArgs false
attribute [local go_sem] drewN_alloc drewN_setCell

variable {P P' : Nat → Prop} {w w' : World} {A : Option Addr} {n c : Nat} {T : List (Int × Int)}
theorem TAt.cast {m : Nat} (h : TAt P w A n c T) (e : n = m) : TAt P w A m c T := e ▸ h
def OfRelQ (w : World) (T : List (Int × Int)) (p : Int × Int → Bool) (v i : Value) (wr : World) : Prop :=
  ∃ k : Nat, k ≤ T.length ∧ i = .int .i64 k ∧ OwnI w.heap.size wr v (((T.take k).filter p).map (fun t => t.1)) ∧ Below w.heap.size w wr
theorem of_take {p : Int × Int → Bool} {k : Nat} (hk : k < T.length) : ((T.take (k + 1)).filter p).map (fun t => t.1) = ((T.take k).filter p).map (fun t => t.1) ++ (if p T[k] = true then [(T[k]).1] else []) := by
  rw [List.take_succ_eq_append_getElem hk, List.filter_append, List.map_append]
  congr 1
  simp only [List.filter_cons, List.filter_nil]
  split <;> rfl
theorem own_shapeQ {B : Nat} {v : Value} {l : List Int} (h : OwnI B w v l) : ∃ A c, v = .slice A l.length c := by
  obtain ⟨A, c, e, _⟩ := h.ints
  exact ⟨A, c, e⟩
theorem own_givesQ {v : Value} {l : List Int} (h : OwnI w.heap.size w' v l) (hl : l.length ≤ 9223372036854775807) (hb : Below w.heap.size w w') : GivesInts w l (.returned v) w' := by
  obtain ⟨A, c, rfl, hi⟩ := ints_of_own h hl
  exact ⟨A, _, c, rfl, hi, hb⟩
set_option maxHeartbeats 4000000 in
theorem ref33_Of_all {d : Nat} (hn : n ≤ 100000) (h : TAt P w A n d T) : Calls Try.prog 128 #[.slice A n d, .int .i64 (-1)] w (GivesInts w (QT.ids T)) := by
  have hl := h.1
  subst hl
  have H := Lib.hid h
  have HN := Lib.hid hn
  obtain ⟨p, hp⟩ : ∃ p : Int × Int → Bool, p = (fun _ => true) := ⟨_, rfl⟩
  have HRES : Hid ((T.filter p).map (fun t => t.1) = QT.ids T) := Lib.hid (by rw [hp]; rw [List.filter_eq_self.2 (fun _ _ => rfl)]; rfl)
  have HPE : Hid (∀ t, p t = (fun _ => true) t) := Lib.hid (fun t => by rw [hp])
  
  
  clear h hp
  go_enter Try.func128, Try.ntmps128
  go_wp2_with fail
  go_loopw [5, 6] (fun v i wr => OfRelQ w T p v i wr) (fun v i _ => T.length - (intOf i).toNat)
  case atStart => exact ⟨0, Nat.zero_le _, rfl, OwnI.nil _ _, Below.refl _ _⟩
  case round =>
    obtain ⟨k, hk, rfl, ho, hb⟩ := hrel
    have HB := Lib.hid hb
    have HO := Lib.hid ho
    obtain ⟨Av, cv, hv⟩ := own_shapeQ ho
    have hcl : (((T.take k).filter p).map (fun t => t.1)).length ≤ T.length := by
      rw [List.length_map]
      refine Nat.le_trans (List.length_filter_le _ _) ?_
      rw [List.length_take]
      omega
    obtain ⟨mv, hmv⟩ : ∃ mv, (((T.take k).filter p).map (fun t => t.1)).length = mv := ⟨_, rfl⟩
    have hmv2 : mv ≤ 100000 := by omega
    rw [hmv] at hv
    have HMV := Lib.hid hmv
    clear hb ho hcl hmv
    subst hv
    have g0 : (0 : Int) ≤ (k : Int) := by omega
    by_cases hlt : k < T.length
    · have hlt' : (k : Int) < (T.length : Int) := by omega
      obtain ⟨b, off, rfl, hbn, x0, y0⟩ := (H.out.keep HB.out).at hlt
      have HT := Lib.hid (of_take (p := p) hlt)
      have hpk := HPE.out T[k]
      obtain ⟨t, htk⟩ : ∃ t, T[k] = t := ⟨_, rfl⟩
      rw [htk] at x0 y0 HT hpk
      obtain ⟨x, y⟩ := t
      dsimp only at x0 y0 HT hpk
      clear htk
      rw [hpk, if_pos rfl] at HT
      have HT2 : Hid ((((T.take k).filter p).map (fun t => t.1)) ++ [x] = ((T.take (k + 1)).filter p).map (fun t => t.1)) := Lib.hid HT.out.symm
      clear HT hpk
      go_wp2_with (at_builtin; refine app_listI rfl (.tmp 24) (.tmp 30) rfl w.heap.size _ _ rfl (HO.out.keep (bel_alloc (Below.refl _ _) _)) (some ⟨wr.heap.size, 0, none⟩) 1 1 [x] rfl (src_oneI (by simp [go_sem])) (by rw [HMV.out]; omega) (by have := HB.out.size; simp; omega) ?_; intro v9 w9 ho9 hb9; rw [HT2.out] at ho9; replace ho9 := Lib.hid ho9; have b9 := Lib.hid ((bel_alloc HB.out _).trans hb9))
      go_roundw
      case rel => exact ⟨k + 1, by omega, by go_num, ho9.out, b9.out⟩
      case measure => simp [intOf]; omega
    · obtain rfl : k = T.length := by omega
      go_wp2_with fail
      go_ret
      rw [← HRES.out]
      have e := HO.out
      rw [List.take_length] at e
      refine own_givesQ e ?_ HB.out
      have := HMV.out
      rw [List.take_length] at this
      omega
set_option maxHeartbeats 4000000 in
theorem ref33_Of_one (c : Int) (hc : ¬ c = -1) {d : Nat} (hn : n ≤ 100000) (h : TAt P w A n d T) : Calls Try.prog 128 #[.slice A n d, .int .i64 c] w (GivesInts w (QT.of T c)) := by
  have hl := h.1
  subst hl
  have H := Lib.hid h
  have HN := Lib.hid hn
  obtain ⟨p, hp⟩ : ∃ p : Int × Int → Bool, p = (fun t => decide (t.2 = c)) := ⟨_, rfl⟩
  have HRES : Hid ((T.filter p).map (fun t => t.1) = QT.of T c) := Lib.hid (by rw [hp]; rfl)
  have HPE : Hid (∀ t, p t = (fun t => decide (t.2 = c)) t) := Lib.hid (fun t => by rw [hp])
  have j0 : (c == -1) = false := by simpa using hc
  have j00 : ¬ c = -1 := hc
  clear h hp hc
  go_enter Try.func128, Try.ntmps128
  go_wp2_with fail
  go_loopw [5, 6] (fun v i wr => OfRelQ w T p v i wr) (fun v i _ => T.length - (intOf i).toNat)
  case atStart => exact ⟨0, Nat.zero_le _, rfl, OwnI.nil _ _, Below.refl _ _⟩
  case round =>
    obtain ⟨k, hk, rfl, ho, hb⟩ := hrel
    have HB := Lib.hid hb
    have HO := Lib.hid ho
    obtain ⟨Av, cv, hv⟩ := own_shapeQ ho
    have hcl : (((T.take k).filter p).map (fun t => t.1)).length ≤ T.length := by
      rw [List.length_map]
      refine Nat.le_trans (List.length_filter_le _ _) ?_
      rw [List.length_take]
      omega
    obtain ⟨mv, hmv⟩ : ∃ mv, (((T.take k).filter p).map (fun t => t.1)).length = mv := ⟨_, rfl⟩
    have hmv2 : mv ≤ 100000 := by omega
    rw [hmv] at hv
    have HMV := Lib.hid hmv
    clear hb ho hcl hmv
    subst hv
    have g0 : (0 : Int) ≤ (k : Int) := by omega
    by_cases hlt : k < T.length
    · have hlt' : (k : Int) < (T.length : Int) := by omega
      obtain ⟨b, off, rfl, hbn, x0, y0⟩ := (H.out.keep HB.out).at hlt
      have HT := Lib.hid (of_take (p := p) hlt)
      have hpk := HPE.out T[k]
      obtain ⟨t, htk⟩ : ∃ t, T[k] = t := ⟨_, rfl⟩
      rw [htk] at x0 y0 HT hpk
      obtain ⟨x, y⟩ := t
      dsimp only at x0 y0 HT hpk
      clear htk
      by_cases hux : y = c
      · have e1 : (y == c) = true := by simpa using hux
        rw [hpk, if_pos (decide_eq_true hux)] at HT
        have HT2 : Hid ((((T.take k).filter p).map (fun t => t.1)) ++ [x] = ((T.take (k + 1)).filter p).map (fun t => t.1)) := Lib.hid HT.out.symm
        clear HT hpk hux
        go_wp2_with (at_builtin; refine app_listI rfl (.tmp 24) (.tmp 30) rfl w.heap.size _ _ rfl (HO.out.keep (bel_alloc (Below.refl _ _) _)) (some ⟨wr.heap.size, 0, none⟩) 1 1 [x] rfl (src_oneI (by simp [go_sem])) (by rw [HMV.out]; omega) (by have := HB.out.size; simp; omega) ?_; intro v9 w9 ho9 hb9; rw [HT2.out] at ho9; replace ho9 := Lib.hid ho9; have b9 := Lib.hid ((bel_alloc HB.out _).trans hb9))
        go_roundw
        case rel => exact ⟨k + 1, by omega, by go_num, ho9.out, b9.out⟩
        case measure => simp [intOf]; omega
      · have e1 : (y == c) = false := by simpa using hux
        rw [hpk, if_neg (fun hh => hux (of_decide_eq_true hh)), List.append_nil] at HT
        clear hpk hux
        go_wp2_with fail
        go_roundw
        case rel => exact ⟨k + 1, by omega, by go_num, by rw [HT.out]; exact HO.out, HB.out⟩
        case measure => simp [intOf]; omega
    · obtain rfl : k = T.length := by omega
      go_wp2_with fail
      go_ret
      rw [← HRES.out]
      have e := HO.out
      rw [List.take_length] at e
      refine own_givesQ e ?_ HB.out
      have := HMV.out
      rw [List.take_length] at this
      omega
/-- What Add and Drop hand back. -/
def GRefT (P : Nat → Prop) (w : World) (T' : List (Int × Int)) (code : Int) (e : Ending) (w' : World) : Prop :=
  ∃ A n c, e = .returned (.tuple #[.slice A n c, .int .i64 code]) ∧ TAt P w' A n c T' ∧ Below w.heap.size w w'
def OwnT (B : Nat) (w : World) (v : Value) (T : List (Int × Int)) : Prop := w.ownsRow B 144 2 v T.length (cellsT T)
theorem OwnT.keep {B : Nat} {v : Value} (h : OwnT B w v T) (k : Below w.heap.size w w') : OwnT B w' v T := by
  refine ⟨h.1, ?_⟩
  rcases h.2 with ⟨rfl, e⟩ | ⟨g, cap, cur, rfl, hb, hg, r⟩
  · exact .inl ⟨rfl, e⟩
  · refine .inr ⟨g, cap, cur, rfl, hb, ?_, r⟩
    have hlt : g < w.heap.size := by
      rcases Nat.lt_or_ge g w.heap.size with hl | hge
      · exact hl
      · rw [Array.getElem?_eq_none hge] at hg; cases hg
    exact (k.block g hlt).trans hg
theorem OwnT.tat {B : Nat} {v : Value} (h : OwnT B w v T) : ∃ A c, v = .slice A T.length c ∧ TAt (fun b => B ≤ b) w A T.length c T := by
  rcases h.2 with ⟨rfl, e⟩ | ⟨g, cap, cur, rfl, hb, hg, hn, hcm, hcs, hx⟩
  · obtain rfl := List.eq_nil_of_length_eq_zero e
    exact ⟨none, 0, rfl, TAt.nil⟩
  · refine ⟨some ⟨g, 0, none⟩, cap, rfl, rfl, hn, by unfold maxLen at hcm; omega, fun h0 => ⟨g, 0, rfl, hb, ?_, fun i u hu => ?_⟩⟩
    · rcases Nat.lt_or_ge g w.heap.size with hl | hge
      · exact hl
      · rw [Array.getElem?_eq_none hge] at hg; cases hg
    · have hi : i < T.length * 2 := by
        rcases Nat.lt_or_ge i (cellsT T).length with h1 | h1
        · rwa [cellsT_len] at h1
        · rw [List.getElem?_eq_none h1] at hu; cases hu
      rw [Nat.zero_add, World.ownsRow.cellAt (w := w) (base := B) (e := 144) (size := 2) h i hi]
      exact hu
theorem infoT : ∃ i : TypeInfo, Try.prog.info? 144 = some i ∧ i.zero = some (.agg #[.int .i64 0, .int .i64 0]) ∧ i.size = 2 ∧ i.bytes = 16 := by
  have h : (Try.prog.info? 144).map (fun i => (i.zero, i.size, i.bytes)) = some (some (.agg #[.int .i64 0, .int .i64 0]), 2, 16) := by kernel_rfl
  rcases hi : Try.prog.info? 144 with _ | i
  · rw [hi] at h; cases h
  · rw [hi] at h
    simp only [Option.map_some, Option.some.injEq, Prod.mk.injEq] at h
    exact ⟨i, rfl, h.1, h.2.1, h.2.2⟩
theorem app_listT {ops : Array Oper} {rest : List Oper} {o : Oper} {a : Act} {Q : Exit → Act → World → Prop} (hgd : o.guard = none) (s x : Operand)
    (ho : o.op = .call { callee := .builtin .append, args := #[s, x], argTypes := #[82, 82] })
    (B : Nat) (v : Value) (l : List (Int × Int)) (hsv : a.eval s = v) (hown : OwnT B w v l)
    (A : Option Addr) (m c : Nat) (l2 : List (Int × Int)) (hx : a.eval x = .slice A m c) (hs : SrcS 2 w A m (cellsT l2)) (hlen : l.length + m ≤ 1000) (hbase : B ≤ w.heap.size)
    (h : ∀ v' w', OwnT B w' v' (l ++ l2) → Below B w w' → wpList Try.prog ops Q rest (a.put o.dst v') w') : wpList Try.prog ops Q (o :: rest) a w := by
  obtain ⟨i, hi, hz, hsz, hby⟩ := infoT
  refine wpList_append_S w hgd 2 (by decide) s x 82 ho B 144 i _ 16 Try.underlying82 hi hz hsz hby rfl v l.length _ hsv hown A m c _ hx hs (cellsT_one' l2) (by unfold maxLen; omega) (by omega) hbase (fun v' w' h2 h3 h4 => ?_)
  refine h v' w' ?_ ((Below.refl B w).grown h3 hbase (fun g hg => (hown.lt g hg).1))
  have hm : m = l2.length := by have := hs.1; rw [cellsT_len] at this; omega
  unfold OwnT
  rw [cellsT_append, List.length_append, ← hm]
  exact h2
theorem app_operT {o : Oper} {a : Act} {K : Act → World → Prop} {Q : Exit → Act → World → Prop} (s x : Operand)
    (ho : o.op = .call { callee := .builtin .append, args := #[s, x], argTypes := #[82, 82] })
    (B : Nat) (v : Value) (l : List (Int × Int)) (hsv : a.eval s = v) (hown : OwnT B w v l)
    (A : Option Addr) (m c : Nat) (l2 : List (Int × Int)) (hx : a.eval x = .slice A m c) (hs : SrcS 2 w A m (cellsT l2)) (hlen : l.length + m ≤ 1000) (hbase : B ≤ w.heap.size)
    (h : ∀ v' w', OwnT B w' v' (l ++ l2) → Below B w w' → K (a.put o.dst v') w') : o.wp Try.prog a w K Q := by
  obtain ⟨i, hi, hz, hsz, hby⟩ := infoT
  refine wp_append_S w 2 (by decide) s x 82 ho B 144 i _ 16 Try.underlying82 hi hz hsz hby rfl v l.length _ hsv hown A m c _ hx hs (cellsT_one' l2) (by unfold maxLen; omega) (by omega) hbase (fun v' w' h2 h3 h4 => ?_)
  refine h v' w' ?_ ((Below.refl B w).grown h3 hbase (fun g hg => (hown.lt g hg).1))
  have hm : m = l2.length := by have := hs.1; rw [cellsT_len] at this; omega
  unfold OwnT
  rw [cellsT_append, List.length_append, ← hm]
  exact h2
theorem own_emptyT (w : World) : OwnT w.heap.size (w.alloc (.cells #[] 144)) (.slice (some ⟨w.heap.size, 0, none⟩) 0 0) [] := own_emptyS 2 w 144
theorem src_oneT (w : World) (x y : Int) : SrcS 2 (w.alloc (.cells #[.int .i64 x, .int .i64 y] 144)) (some ⟨w.heap.size, 0, none⟩) 1 (cellsT [(x, y)]) := by
  refine ⟨by simp [cellsT], fun e => by simp at e, fun ad e j u hu => ?_⟩
  obtain rfl : (⟨w.heap.size, 0, none⟩ : Addr) = ad := by simpa using e
  rw [addr_addS, Nat.zero_add, (RowAt.new w 144 [.int .i64 x, .int .i64 y]).cell]
  exact hu
theorem ref33_Add_arg1 (id cl : Int) (h1 : id < 1) (h : TAt P w A n c T) : Calls Try.prog 59 #[.slice A n c, .int .i64 id, .int .i64 cl] w fun e w' => e = .returned (.tuple #[.slice A n c, .int .i64 2]) ∧ w = w' := by
  clear h
  go_enter Try.func59, Try.ntmps59
  go_wp2_with fail
  go_ret2
  exact ⟨rfl, rfl⟩
theorem ref33_Add_arg2 (id cl : Int) (h1 : 1 ≤ id) (h2 : cl < 0) (h : TAt P w A n c T) : Calls Try.prog 59 #[.slice A n c, .int .i64 id, .int .i64 cl] w fun e w' => e = .returned (.tuple #[.slice A n c, .int .i64 2]) ∧ w = w' := by
  clear h
  go_enter Try.func59, Try.ntmps59
  go_wp2_with fail
  go_ret2
  exact ⟨rfl, rfl⟩
theorem ref33_Add_arg3 (id cl : Int) (h1 : 1 ≤ id) (h2 : 0 ≤ cl) (h3 : 63 < cl) (h : TAt P w A n c T) : Calls Try.prog 59 #[.slice A n c, .int .i64 id, .int .i64 cl] w fun e w' => e = .returned (.tuple #[.slice A n c, .int .i64 2]) ∧ w = w' := by
  clear h
  go_enter Try.func59, Try.ntmps59
  go_wp2_with fail
  go_ret2
  exact ⟨rfl, rfl⟩
theorem ref33_Add_twice (id cl : Int) (h1 : 1 ≤ id) (h2 : 0 ≤ cl) (h3 : cl ≤ 63) (h4 : 0 ≤ QT.place T id) (h : TAt P w A n c T) : Calls Try.prog 59 #[.slice A n c, .int .i64 id, .int .i64 cl] w fun e w' => e = .returned (.tuple #[.slice A n c, .int .i64 19]) ∧ w = w' := by
  have K := Lib.hid (ref33_Place id h)
  generalize QT.place T id = p at *
  clear h
  go_enter Try.func59, Try.ntmps59
  go_wp2_with fail
  refine K.out.mono ?_
  rintro e w1 ⟨rfl, rfl⟩
  go_wp2_with fail
  go_ret2
  exact ⟨rfl, rfl⟩
theorem ref33_Add_full (id cl : Int) (h1 : 1 ≤ id) (h2 : 0 ≤ cl) (h3 : cl ≤ 63) (h4 : QT.place T id = -1) (h5 : 256 ≤ n) (h : TAt P w A n c T) : Calls Try.prog 59 #[.slice A n c, .int .i64 id, .int .i64 cl] w fun e w' => e = .returned (.tuple #[.slice A n c, .int .i64 10]) ∧ w = w' := by
  have K := ref33_Place id h
  rw [h4] at K
  replace K := Lib.hid K
  have h5' : (256 : Int) ≤ (n : Int) := by omega
  clear h4
  clear h
  go_enter Try.func59, Try.ntmps59
  go_wp2_with fail
  refine K.out.mono ?_
  rintro e w1 ⟨rfl, rfl⟩
  go_wp2_with fail
  go_ret2
  exact ⟨rfl, rfl⟩
set_option maxRecDepth 100000 in
set_option maxHeartbeats 4000000 in
theorem ref33_Add_ok (id cl : Int) (h1 : 1 ≤ id) (h2 : 0 ≤ cl) (h3 : cl ≤ 63) (h4 : QT.place T id = -1) (h5 : n < 256) (hP : ∀ b, w.heap.size ≤ b → P b) (h : TAt P w A n c T) : Calls Try.prog 59 #[.slice A n c, .int .i64 id, .int .i64 cl] w (GRefT P w (T ++ [(id, cl)]) 0) := by
  have K := ref33_Place id h
  rw [h4] at K
  replace K := Lib.hid K
  have hl := h.1
  have h5' : (n : Int) < 256 := by omega
  have H := Lib.hid h
  have HP := Lib.hid hP
  have HL1 : Hid (([] : List (Int × Int)).length + n ≤ 1000) := Lib.hid (by simp; omega)
  have HL2 : Hid (([] ++ T : List (Int × Int)).length + 1 ≤ 1000) := Lib.hid (by simp; omega)
  have HS1 : Hid (SrcS 2 (w.alloc (.cells #[] 144)) A n (cellsT T)) := Lib.hid (h.keep (bel_alloc (Below.refl _ _) _)).src
  clear h h4 hP hl
  go_enter Try.func59, Try.ntmps59
  go_wp2_with fail
  refine K.out.mono ?_
  rintro e w1 ⟨rfl, rfl⟩
  go_wp2_with (first
    | (at_builtin; refine app_listT rfl (.tmp 28) (.tmp 29) rfl w.heap.size (.slice (some ⟨w.heap.size, 0, none⟩) 0 0) [] rfl (own_emptyT w) A n c T rfl HS1.out HL1.out (by simp) ?_; intro v5 w5 ho5 hb5; have z5 := hb5.size)
    | (at_builtin; refine app_listT rfl (.tmp 30) (.tmp 34) rfl w.heap.size v5 ([] ++ T) rfl (ho5.keep (bel_alloc (Below.refl _ _) _)) (some ⟨w5.heap.size, 0, none⟩) 1 1 [(id, cl)] rfl (src_oneT w5 id cl) HL2.out (by simp at z5 ⊢; omega) ?_; intro v6 w6 ho6 hb6; have hT := ho6.tat; obtain ⟨A6, c6, rfl, t6⟩ := hT))
  go_ret2
  have b0 : Below w.heap.size w (w.alloc (.cells #[] 144)) := bel_alloc (Below.refl _ _) _
  have b5 : Below w.heap.size w w5 := b0.trans hb5
  have b6 : Below w.heap.size w w6 := (b5.alloc b5.size _).trans hb6
  refine ⟨_, _, _, rfl, ?_, b6⟩
  rw [List.nil_append] at t6
  exact TAt.cast (t6.mono (fun b _ hb => HP.out b hb)) (by simp)
def fromT (A : Option Addr) (c k : Nat) : Option Addr := if c = k then A else A.map (·.add (k * 2))
theorem T_elem : Try.prog.underlying 82 = some (.slice (Try.prog.elem 82)) := by kernel_rfl
theorem T_size (w : World) : (sizeOf (Try.prog.elem 82)).run Try.prog w = .ok 2 w := by kernel_rfl
theorem execT_from {a : Act} {o : Oper} {x l : Nat} {n c k : Nat} (ho : o.op = .slice 82 (.tmp x) (some (.tmp l)) none none) (hx : a.eval (.tmp x) = .slice A n c) (hl : a.eval (.tmp l) = .int .i64 (k : Int)) (hk : k ≤ n) :
    (execOp a.eval o).run Try.prog w = .ok (.value (.slice (fromT A c k) (n - k) (c - k))) w := by
  have hs : (Instr.sliceAt 82 (.slice A n c) (some (.int .i64 (k : Int))) none none).run Try.prog w = .ok (.slice (fromT A c k) (n - k) (c - k)) w := by
    rw [run_sliceAt_slice (h := T_elem), run_slice_l (ht := T_elem) (h0 := by omega) (h1 := by omega), T_size]
    simp only [Result.andThen, sliced, fromT, Int.toNat_natCast]
  unfold execOp
  simp only [ho, hx, hl, Option.map_some, Option.map_none, Sem.run_bind, hs, Result.andThen]
  rfl
theorem execT_to {a : Act} {o : Oper} {x l : Nat} {n c k : Nat} (ho : o.op = .slice 82 (.tmp x) none (some (.tmp l)) none) (hx : a.eval (.tmp x) = .slice A n c) (hl : a.eval (.tmp l) = .int .i64 (k : Int)) (hk : k ≤ c) :
    (execOp a.eval o).run Try.prog w = .ok (.value (.slice (fromT A c 0) k c)) w := by
  have hs : (Instr.sliceAt 82 (.slice A n c) none (some (.int .i64 (k : Int))) none).run Try.prog w = .ok (.slice (fromT A c 0) k c) w := by
    rw [run_sliceAt_slice (h := T_elem), run_slice_h (ht := T_elem) (h0 := by omega) (h2 := by omega), T_size]
    simp only [Result.andThen, sliced, fromT, Int.toNat_natCast, Nat.sub_zero]
  unfold execOp
  simp only [ho, hx, hl, Option.map_some, Option.map_none, Sem.run_bind, hs, Result.andThen]
  rfl
theorem TAt.src_from (h : TAt P w A n c T) {k : Nat} (hk : k ≤ n) : SrcS 2 w (fromT A c k) (n - k) (cellsT (T.drop k)) := by
  have h1 := h.1
  have h2 := h.2.1
  refine ⟨by rw [cellsT_len, List.length_drop]; omega, fun e => ?_, fun ad e j u hu => ?_⟩
  · rcases Nat.eq_zero_or_pos n with h0 | h0
    · omega
    · obtain ⟨b, off, e2, _⟩ := h.2.2.2 h0
      unfold fromT at e
      rw [e2] at e
      split at e <;> cases e
  · rw [← cellsT_drop, List.getElem?_drop] at hu
    have hj : k * 2 + j < (cellsT T).length := by
      rcases Nat.lt_or_ge (k * 2 + j) (cellsT T).length with h3 | h3
      · exact h3
      · rw [List.getElem?_eq_none h3] at hu; cases hu
    rw [cellsT_len] at hj
    obtain ⟨b, off, e2, _, _, h3⟩ := h.2.2.2 (by omega)
    unfold fromT at e
    rw [e2, if_neg (by omega)] at e
    cases e
    show w.cell? (((⟨b, off, none⟩ : Addr).add (k * 2)).add j) = some u
    rw [addr_addS, addr_addS]
    have := h3 (k * 2 + j) u hu
    rw [← Nat.add_assoc] at this
    exact this
theorem TAt.src_to (h : TAt P w A n c T) {k : Nat} (hk : k ≤ n) : SrcS 2 w (fromT A c 0) k (cellsT (T.take k)) := by
  have h1 := h.1
  have h2 := h.2.1
  refine ⟨by rw [cellsT_len, List.length_take]; omega, fun e => ?_, fun ad e j u hu => ?_⟩
  · rcases Nat.eq_zero_or_pos n with h0 | h0
    · omega
    · obtain ⟨b, off, e2, _⟩ := h.2.2.2 h0
      unfold fromT at e
      rw [e2] at e
      split at e <;> cases e
  · rw [← cellsT_take, List.getElem?_take] at hu
    have hj : j < k * 2 ∧ (cellsT T)[j]? = some u := by
      split at hu
      · exact ⟨by assumption, hu⟩
      · cases hu
    obtain ⟨b, off, e2, _, _, h3⟩ := h.2.2.2 (by omega)
    unfold fromT at e
    rw [e2, if_neg (by omega)] at e
    cases e
    show w.cell? (((⟨b, off, none⟩ : Addr).add (0 * 2)).add j) = some u
    rw [addr_addS, addr_addS, Nat.zero_mul, Nat.add_zero]
    exact h3 j u hj.2
theorem drop_cut (hn : (QT.ids T).Nodup) {x : Int} (hx : x ∈ QT.ids T) {k : Nat} (hk : (QT.ids T).idxOf x = k) : QT.drop T x = T.take k ++ T.drop (k + 1) := by
  induction T generalizing k with
  | nil => cases hx
  | cons t r ih =>
    have e0 : QT.ids (t :: r) = t.1 :: QT.ids r := rfl
    rw [e0] at hn hx hk
    rw [List.nodup_cons] at hn
    unfold QT.drop at ih ⊢
    by_cases e : t.1 = x
    · subst e
      rw [List.idxOf_cons_self] at hk
      subst hk
      have : r.filter (fun t' => decide (t'.1 ≠ t.1)) = r := by
        rw [List.filter_eq_self]
        intro u hu
        refine decide_eq_true (fun e => hn.1 ?_)
        exact List.mem_map.2 ⟨u, hu, e⟩
      simp only [List.filter_cons]
      rw [if_neg (by simp), this]
      rfl
    · have hx' : x ∈ QT.ids r := by
        rcases List.mem_cons.1 hx with h | h
        · exact absurd h.symm e
        · exact h
      rw [List.idxOf_cons] at hk
      simp only [show (t.1 == x) = false by simpa using e, cond_false] at hk
      subst hk
      simp only [List.filter_cons]
      rw [if_pos (by simpa using e), ih hn.2 hx' rfl]
      rfl
theorem ref33_Drop_no (id : Int) (h4 : QT.place T id = -1) (h : TAt P w A n c T) : Calls Try.prog 57 #[.slice A n c, .int .i64 id] w fun e w' => e = .returned (.tuple #[.slice A n c, .int .i64 12]) ∧ w = w' := by
  have K := ref33_Place id h
  rw [h4] at K
  replace K := Lib.hid K
  clear h h4
  go_enter Try.func57, Try.ntmps57
  go_wp2_with fail
  refine K.out.mono ?_
  rintro e w1 ⟨rfl, rfl⟩
  go_wp2_with fail
  go_ret2
  exact ⟨rfl, rfl⟩
set_option maxRecDepth 100000 in
set_option maxHeartbeats 4000000 in
theorem ref33_Drop_ok (id : Int) (hnd : (QT.ids T).Nodup) (hx : id ∈ QT.ids T) (h5 : n ≤ 256) (hP : ∀ b, w.heap.size ≤ b → P b) (h : TAt P w A n c T) : Calls Try.prog 57 #[.slice A n c, .int .i64 id] w (GRefT P w (QT.drop T id) 0) := by
  have K := ref33_Place id h
  have hl := h.1
  subst hl
  obtain ⟨k, hk⟩ : ∃ k, (QT.ids T).idxOf id = k := ⟨_, rfl⟩
  have e1 : QT.place T id = (k : Int) := by unfold QT.place; rw [if_pos hx, hk]
  rw [e1] at K
  replace K := Lib.hid K
  have hkl := List.idxOf_lt_length_iff.2 hx
  have hidl : (QT.ids T).length = T.length := by simp [QT.ids]
  rw [hk, hidl] at hkl
  obtain ⟨k1, hk1⟩ : ∃ k1, k + 1 = k1 := ⟨_, rfl⟩
  have HC := drop_cut hnd hx hk
  rw [hk1] at HC
  replace HC := Lib.hid HC
  have hw : IntKind.i64.wrap ((k : Int) + 1) = (k1 : Int) := by rw [IntKind.wrap_i64]; omega
  have g0 : (0 : Int) ≤ (k : Int) := by omega
  have g1 : decide ((k : Int) < 0) = false := decide_eq_false (by omega)
  have g2 : ¬ (k : Int) < 0 := by omega
  have HKC : Hid (k ≤ c) := Lib.hid (by have := h.2.1; omega)
  have HK1 : Hid (k1 ≤ T.length) := Lib.hid (by omega)
  have HP := Lib.hid hP
  have HL1 : Hid (([] : List (Int × Int)).length + k ≤ 1000) := Lib.hid (by simp; omega)
  have HL2 : Hid (([] ++ T.take k : List (Int × Int)).length + (T.length - k1) ≤ 1000) := Lib.hid (by simp; omega)
  have HE : Hid (OwnT w.heap.size (w.drew.alloc (.cells #[] 144)) (.slice (some ⟨w.heap.size, 0, none⟩) 0 0) []) := Lib.hid (own_emptyT w.drew)
  have HS1 : Hid (SrcS 2 (w.drew.alloc (.cells #[] 144)) (fromT A c 0) k (cellsT (T.take k))) := Lib.hid ((h.keep (bel_alloc (bel_drew (Below.refl _ _)) _)).src_to (by omega))
  have HS2 : Hid (∀ W, Below w.heap.size w W → SrcS 2 W (fromT A c k1) (T.length - k1) (cellsT (T.drop k1))) := Lib.hid (fun W hW => (h.keep hW).src_from (by omega))
  have HB0 : Hid (Below w.heap.size w (w.drew.alloc (.cells #[] 144))) := Lib.hid (bel_alloc (bel_drew (Below.refl _ _)) _)
  clear h hnd hx hk e1 hkl hidl hk1 hP h5
  go_enter Try.func57, Try.ntmps57
  go_upto_region 4 with (refine K.out.mono ?_; rintro e w1 ⟨rfl, rfl⟩)
  refine wp_region_held_drew (S := (fun W : World => Below w.heap.size w W)) (by kernel_rfl) ?_ (fun hHeld => ?_)
  focus ((try dsimp only); exact (by repeat (first | exact Below.refl _ _ | assumption | refine bel_drew ?_ | refine bel_drewN ?_ _ | refine bel_alloc ?_ _ | refine bel_trans ?_ (by assumption))))
  refine tk_yes 1 (v := ?_) rfl (by kernel_rfl) (by kernel_rfl) (by kernel_rfl) (fun _ _ _ h => h) (by kernel_rfl) (by assumption) ?_ ?_; rotate_left; (focus (intro w hSw; (try dsimp only at hSw); go_simp; (first | done | (with_reducible rfl)))); (try simp only [Act.put, List.setIfInBounds_toArray, List.set_cons_zero, List.set_cons_succ])
  refine tk_yes 2 (v := ?_) rfl (by kernel_rfl) (by kernel_rfl) (by kernel_rfl) (fun _ _ _ h => h) (by kernel_rfl) (by assumption) ?_ ?_; rotate_left; (focus (intro w hSw; (try dsimp only at hSw); go_simp; (first | done | (with_reducible rfl)))); (try simp only [Act.put, List.setIfInBounds_toArray, List.set_cons_zero, List.set_cons_succ])
  refine tk_yes 3 (v := .slice (fromT A c 0) k c) rfl (by kernel_rfl) (by kernel_rfl) (by kernel_rfl) (fun _ _ _ h => h) (by kernel_rfl) (by assumption) (fun w _ => execT_to (k := k) rfl rfl rfl HKC.out) ?_; (try simp only [Act.put, List.setIfInBounds_toArray, List.set_cons_zero, List.set_cons_succ])
  refine tk_yes 5 (v := ?_) rfl (by kernel_rfl) (by kernel_rfl) (by kernel_rfl) (fun _ _ _ h => h) (by kernel_rfl) (by assumption) ?_ ?_; rotate_left; (focus (intro w hSw; (try dsimp only at hSw); go_simp; (first | done | (with_reducible rfl)))); (try simp only [Act.put, List.setIfInBounds_toArray, List.set_cons_zero, List.set_cons_succ])
  refine tk_yes 6 (v := ?_) rfl (by kernel_rfl) (by kernel_rfl) (by kernel_rfl) (fun _ _ _ h => h) (by kernel_rfl) (by assumption) ?_ ?_; rotate_left; (focus (intro w hSw; (try dsimp only at hSw); go_simp; (first | done | (with_reducible rfl)))); (try simp only [Act.put, List.setIfInBounds_toArray, List.set_cons_zero, List.set_cons_succ])
  refine tk_yes 7 (v := ?_) rfl (by kernel_rfl) (by kernel_rfl) (by kernel_rfl) (fun _ _ _ h => h) (by kernel_rfl) (by assumption) ?_ ?_; rotate_left; (focus (intro w hSw; (try dsimp only at hSw); go_simp; (first | done | (with_reducible rfl)))); (try simp only [Act.put, List.setIfInBounds_toArray, List.set_cons_zero, List.set_cons_succ])
  refine tk_yes 8 (v := .slice (fromT A c k1) (T.length - k1) (c - k1)) rfl (by kernel_rfl) (by kernel_rfl) (by kernel_rfl) (fun _ _ _ h => h) (by kernel_rfl) (by assumption) (fun w _ => execT_from (k := k1) rfl rfl rfl HK1.out) ?_; (try simp only [Act.put, List.setIfInBounds_toArray, List.set_cons_zero, List.set_cons_succ])
  refine tk_call 0 rfl (by kernel_rfl) (by kernel_rfl) (fun KW hKW => ?_); go_simp; refine hKW.out _ _ ?_ (fun hHeld => ?_); (focus ((try dsimp only); exact (by repeat (first | exact Below.refl _ _ | assumption | refine bel_drew ?_ | refine bel_drewN ?_ _ | refine bel_alloc ?_ _ | refine bel_trans ?_ (by assumption))))); clear hKW KW; (try simp only [Act.put, List.setIfInBounds_toArray, List.set_cons_zero, List.set_cons_succ])
  refine tk_call 4 rfl (by kernel_rfl) (by kernel_rfl) (fun KW hKW => ?_); refine app_operT (.tmp 13) (.tmp 16) rfl w.heap.size _ [] rfl HE.out (fromT A c 0) k c (T.take k) rfl HS1.out HL1.out (by simp) ?_; intro v5 w5 ho5 hb5; have z5 := hb5.size; have b5 := HB0.out.trans hb5; refine hKW.out _ _ ?_ (fun hHeld => ?_); (focus ((try dsimp only); exact (by repeat (first | exact Below.refl _ _ | assumption | refine bel_drew ?_ | refine bel_drewN ?_ _ | refine bel_alloc ?_ _ | refine bel_trans ?_ (by assumption))))); clear hKW KW; (try simp only [Act.put, List.setIfInBounds_toArray, List.set_cons_zero, List.set_cons_succ])
  refine tk_call 9 rfl (by kernel_rfl) (by kernel_rfl) (fun KW hKW => ?_); refine app_operT (.tmp 17) (.tmp 21) rfl w.heap.size v5 ([] ++ T.take k) rfl ho5 (fromT A c k1) (T.length - k1) (c - k1) (T.drop k1) rfl (HS2.out _ b5) HL2.out b5.size ?_; intro v6 w6 ho6 hb6; have b6 := b5.trans hb6; obtain ⟨A6, c6, rfl, t6⟩ := ho6.tat; refine hKW.out _ _ ?_ (fun hHeld => ?_); (focus ((try dsimp only); exact (by repeat (first | exact Below.refl _ _ | assumption | refine bel_drew ?_ | refine bel_drewN ?_ _ | refine bel_alloc ?_ _ | refine bel_trans ?_ (by assumption))))); clear hKW KW; (try simp only [Act.put, List.setIfInBounds_toArray, List.set_cons_zero, List.set_cons_succ])
  refine tk_yes 10 (v := ?_) rfl (by kernel_rfl) (by kernel_rfl) (by kernel_rfl) (fun _ _ _ h => h) (by kernel_rfl) (by assumption) ?_ ?_; rotate_left; (focus (intro w hSw; (try dsimp only at hSw); go_simp; (first | done | (with_reducible rfl)))); (try simp only [Act.put, List.setIfInBounds_toArray, List.set_cons_zero, List.set_cons_succ])
  refine tk_yes 11 (v := ?_) rfl (by kernel_rfl) (by kernel_rfl) (by kernel_rfl) (fun _ _ _ h => h) (by kernel_rfl) (by assumption) ?_ ?_; rotate_left; (focus (intro w hSw; (try dsimp only at hSw); go_simp; (first | done | (with_reducible rfl)))); (try simp only [Act.put, List.setIfInBounds_toArray, List.set_cons_zero, List.set_cons_succ])
  refine wpAnyH_done (by kernel_rfl) ?_ _
  go_wp2_with fail
  go_ret2
  refine ⟨_, _, _, rfl, ?_, b6⟩
  rw [HC.out]
  rw [List.nil_append] at t6
  exact TAt.cast (t6.mono (fun b _ hb => HP.out b hb)) (by simp)
end Go.Proofs.Ytdhcmnbajkpjiaa
/-
  A map from ints to ints of the call's own: look, enter (as one of several assignments), delete.
-/
namespace Go.Proofs.Ytdhcmnbajkpjiaa
open Go.RowKit
open Go.Maps
set_option linter.unusedVariables false
set_option linter.unusedSimpArgs false
attribute [local go_sem] drewN_alloc drewN_setCell

section
open Go.WideElems Go.MapKept Go.ChangeMaps Go.ChangeShapes Go.WideShapes
variable {H : Type} {P : Program} {w : World} {t k e : TypeId} {R : Value → Option (DataW H × List MemPlace)} {b : Nat} {es : Array MapEntry} {clock : Nat}
theorem entry_keyed (K : Keyed P k) (ht : P.underlying t = some (.map k e)) {z : Value} (hz : ∀ u : World, (zeroValue e).run P u = .ok z u) (hb : w.heap[b]? = some (.map es clock)) (F : Fit P k R es clock)
    {key : Value} {kl : Lit} (hkey : keyOf P k key = some kl) :
    ∃ (v0 : Value) (st : Nat) (es1 : Array MapEntry) (clock1 : Nat), (Instr.mapEntry t (.map (some b)) key).run P w = .ok (.tuple #[v0, goInt st]) (setBlock w b (.map es1 clock1)) ∧
      ∀ (w2 : World) (val : Value), w2.heap[b]? = some (.map es1 clock1) → ∃ es' clock', (Instr.entryStore t (.map (some b)) (goInt st) val).run P w2 = .ok () (setBlock w2 b (.map es' clock')) ∧
        (Instr.mapUpdate t (.map (some b)) key val).run P w = .ok () (setBlock w b (.map es' clock')) := by
  obtain ⟨s1, s2, _⟩ := F.stamped
  rcases K.find w hkey es.toList F.keys with ⟨h1, h2⟩ | ⟨j, e0, h1, h2, h3⟩
  · refine ⟨z, clock, es.push ⟨key, z, clock⟩, clock + 1, ?_, fun w2 val hw2 => ⟨es.push ⟨key, val, clock⟩, clock + 1, ?_, ?_⟩⟩
    · simp [Instr.mapEntry, run_underlying ht, MapKept.run_getObj_map hb, K.check w false hkey, h1, hz, MapKept.run_setObj_map _ hb, Result.andThen, setBlock]
    · have hidx : (es.push ⟨key, z, clock⟩).findIdx? (fun e => ((e.born : Nat) : Int) == ((clock : Nat) : Int)) = some es.size := by
        rw [findIdx_arr]
        have := findIdx_born (l := (es.push ⟨key, z, clock⟩).toList) (j := es.size) (e0 := ⟨key, z, clock⟩) (by
          simp only [Array.toList_push, List.map_append, List.map_cons, List.map_nil]
          refine List.nodup_append.2 ⟨s2, by simp, fun a ha c hc e1 => ?_⟩
          simp only [List.mem_singleton] at hc
          obtain ⟨x, hx, rfl⟩ := List.mem_map.1 ha
          have := s1 x hx
          omega) (by simp)
        exact this
      have hmod : (es.push ⟨key, z, clock⟩).modify es.size (fun e => { e with val := val }) = es.push ⟨key, val, clock⟩ := by
        apply Array.ext'
        rw [Array.toList_modify, Array.toList_push, Array.toList_push, ← Array.length_toList, modify_last]
      simp [Instr.entryStore, MapKept.run_getObj_map hw2, asInt, asIntOf, goInt, hidx, hmod, MapKept.run_setObj_map _ hw2, Result.andThen, setBlock]
    · simp [Instr.mapUpdate, run_underlying ht, MapKept.run_getObj_map hb, K.check w false hkey, h1, MapKept.run_setObj_map _ hb, Result.andThen, setBlock]
  · have hj : es[j]? = some e0 := by simpa using h2
    have hsame : es.modify j (fun e => { e with key := key }) = es := by
      apply Array.ext'
      rw [Array.toList_modify, modify_eq_set _ _ _ _ h2]
      have : ({ e0 with key := key } : MapEntry) = e0 := by rw [← h3]
      rw [this]
      exact set_self _ _ _ h2
    refine ⟨e0.val, e0.born, es, clock, ?_, fun w2 val hw2 => ⟨es.modify j (fun e' => { e' with key := key, val := val }), clock, ?_, ?_⟩⟩
    · simp [Instr.mapEntry, run_underlying ht, MapKept.run_getObj_map hb, K.check w false hkey, h1, hj, h3, K.stays w hkey, hsame, MapKept.run_setObj_map _ hb, Result.andThen, setBlock]
    · have hidx : es.findIdx? (fun e => ((e.born : Nat) : Int) == ((e0.born : Nat) : Int)) = some j := by
        rw [findIdx_arr]
        exact findIdx_born s2 h2
      have hmod : es.modify j (fun e => { e with val := val }) = es.modify j (fun e' => { e' with key := key, val := val }) := by
        apply Array.ext'
        rw [Array.toList_modify, Array.toList_modify, modify_eq_set _ _ _ _ h2, modify_eq_set _ _ _ _ h2, ← h3]
      simp [Instr.entryStore, MapKept.run_getObj_map hw2, asInt, asIntOf, goInt, hidx, hmod, MapKept.run_setObj_map _ hw2, Result.andThen, setBlock]
    · simp [Instr.mapUpdate, run_underlying ht, MapKept.run_getObj_map hb, K.check w false hkey, h1, hj, h3, K.stays w hkey, MapKept.run_setObj_map _ hb, Result.andThen, setBlock]
end
section
variable {P : Program} {o : Oper} {a : Act} {K : Act → World → Prop} {Q : Exit → Act → World → Prop} {w w' : World} {t : TypeId} {b : Nat}
theorem wp_mapEntry (m x : Operand) (ho : o.op = .mapEntry t m x) {key v : Value} (hm : a.eval m = .map (some b)) (hx : a.eval x = key) (hrun : (Instr.mapEntry t (.map (some b)) key).run P w = .ok v w') (h : K (a.put o.dst v) w') : o.wp P a w K Q := by
  unfold Oper.wp execOp
  simp only [ho, hm, hx, Sem.run_bind, Sem.run_pure, Result.andThen_ok, hrun]
  exact h
theorem wp_entryStore (m s x : Operand) (ho : o.op = .entryStore t m s x) {st val : Value} (hm : a.eval m = .map (some b)) (hs : a.eval s = st) (hx : a.eval x = val) (hrun : (Instr.entryStore t (.map (some b)) st val).run P w = .ok () w') (h : K (a.put o.dst undef) w') : o.wp P a w K Q := by
  unfold Oper.wp execOp
  simp only [ho, hm, hs, hx, Sem.run_bind, Sem.run_pure, Result.andThen_ok, hrun]
  exact h
end
theorem tightI {w : World} {b n : Nat} {D : DataW Unit} (h : w.ownsMap Try.prog 3 (plainElem Try.prog 3) b n D) : w.ownsMap Try.prog 3 (plainElem Try.prog 3) b (Maps.size D) D := by
  obtain ⟨es, clock, hb, F, hs, rfl⟩ := h
  exact ⟨es, clock, hb, F, by simp [Maps.size, length_sorted], rfl⟩
theorem int_zero (w : World) : (zeroValue 3).run Try.prog w = .ok (.int .i64 0) w := by kernel_rfl
/-- Block b is a map that says what f says, of at most k entries. -/
def MapAt (w : World) (b k : Nat) (f : Int → Option Int) : Prop :=
  ∃ D : DataW Unit, w.ownsMap Try.prog 3 (plainElem Try.prog 3) b (Maps.size D) D ∧ Maps.size D ≤ k ∧ (∀ x : Int, D.atKey (.int .i64 x) (.lit (.int .i64 0)) = .lit (.int .i64 ((f x).getD 0))) ∧ ∀ x : Int, Maps.has D (.int .i64 x) = (f x).isSome
theorem MapAt.of_block {w w' : World} {b k : Nat} {f : Int → Option Int} (h : MapAt w b k f) (e : w'.heap[b]? = w.heap[b]?) : MapAt w' b k f := by
  obtain ⟨D, ⟨es, clock, hb, r⟩, h2⟩ := h
  exact ⟨D, ⟨es, clock, e.trans hb, r⟩, h2⟩
theorem MapAt.lt {w : World} {b k : Nat} {f : Int → Option Int} (h : MapAt w b k f) : b < w.heap.size := by
  obtain ⟨D, h1, _⟩ := h
  exact h1.lt
theorem MapAt.made (w : World) : MapAt (w.alloc (.map #[] 0)) w.heap.size 0 (fun _ => none) :=
  ⟨.map [], tightI (World.ownsMap_made _ _ _ _), Nat.le_refl _, fun x => by simp [DataW.atKey], fun x => by simp [Maps.has]⟩
theorem keyI (x : Int) (hx : BdI x) : keyOf Try.prog 3 (.int .i64 x) = some (.int .i64 x) := keyOf_int_mk (P := Try.prog) (k := 3) Try.underlying3 (WalkArith.wf_i64 hx)
theorem MapAt.look {w : World} {b k : Nat} {f : Int → Option Int} (h : MapAt w b k f) (x : Int) (hx : BdI x) :
    (Instr.lookup 93 (.map (some b)) (.int .i64 x) true).run Try.prog w = .ok (.tuple #[.int .i64 ((f x).getD 0), .bool (f x).isSome]) w := by
  obtain ⟨D, h1, _, h3, h4⟩ := h
  obtain ⟨v, ps, hrun, hv⟩ := h1.look_ok place_keyed Try.underlying93 (int_zero w) (plainElem_int (q := .i64) Try.underlying3 (by decide)) (keyI x hx)
  rw [h3] at hv
  obtain ⟨c, rfl, hc, hwc⟩ := plainElem_int_inv Try.underlying3 hv
  simp at hc
  rw [hrun, h4, hc.1]
open Go.ChangeMaps in
theorem MapAt.enter {w : World} {b k : Nat} {f : Int → Option Int} (h : MapAt w b k f) (x y : Int) (hx : BdI x) (hy : BdI y) (hk : k < maxLen) :
    ∃ v0 st w1, (Instr.mapEntry 93 (.map (some b)) (.int .i64 x)).run Try.prog w = .ok (.tuple #[v0, st]) w1 ∧ w.grownBy w1 (some b) ∧
      ∀ w2 : World, w2.heap[b]? = w1.heap[b]? → ∃ w3, (Instr.entryStore 93 (.map (some b)) st (.int .i64 y)).run Try.prog w2 = .ok () w3 ∧ w2.grownBy w3 (some b) ∧ MapAt w3 b (k + 1) (fun z => if z = x then some y else f z) := by
  obtain ⟨D, h1, h2, h3, h4⟩ := h
  have ht := h1.tidy place_keyed
  obtain ⟨w', hup, ho, hg⟩ := h1.update place_keyed Try.underlying93 (by omega) (keyI x hx) (plainElem_int (q := .i64) Try.underlying3 (WalkArith.wf_i64 hy))
  obtain ⟨es, clock, hb, F, hs, hD⟩ := h1
  obtain ⟨v0, st, es1, c1, hrun, hst⟩ := entry_keyed place_keyed Try.underlying93 int_zero hb F (keyI x hx)
  have blk := fun (u : World) (es0 : Array MapEntry) (c0 : Nat) (ob' : Obj) (hu : u.heap[b]? = some (.map es0 c0)) => (⟨rfl, rfl, rfl, by simp [setBlock], fun i _ hi => heap_setBlock_other hu _ (fun e => hi (by rw [e]))⟩ : u.grownBy (setBlock u b ob') (some b))
  refine ⟨v0, goInt st, _, hrun, blk w _ _ _ hb, fun w2 hw2 => ?_⟩
  rw [heap_setBlock_same hb] at hw2
  obtain ⟨es', c', hst2, hup2⟩ := hst w2 (.int .i64 y) hw2
  refine ⟨_, hst2, blk w2 _ _ _ hw2, ?_⟩
  have ew : w' = setBlock w b (.map es' c') := by
    rw [hup] at hup2
    injection hup2
  have hm : MapAt w' b (k + 1) (fun z => if z = x then some y else f z) := by
    refine ⟨_, tightI ho, ?_, fun z => ?_, fun z => ?_⟩
    · have e1 : Maps.size (D.put (.int .i64 x) (.lit (.int .i64 y))) = if Maps.has D (.int .i64 x) = true then Maps.size D else Maps.size D + 1 := size_put ht _
      rw [e1]
      split <;> omega
    · by_cases e : z = x
      · subst e
        rw [atKey_put_same ht.isMap (by exact trivial)]
        simp
      · rw [atKey_put_other (by simpa using e), h3]; simp [e]
    · by_cases e : z = x
      · subst e
        rw [has_put_same ht.isMap (by exact trivial)]
        simp
      · rw [has_put_other (by simpa using e), h4]; simp [e]
  refine hm.of_block ?_
  rw [ew, heap_setBlock_same hb, heap_setBlock_same hw2]
theorem MapAt.del {w : World} {b k : Nat} {f : Int → Option Int} (h : MapAt w b k f) (x : Int) (hx : BdI x) (hf : (f x).isSome = true) (ty : TypeId) :
    ∃ w', (Builtin.delete_ #[93, 3] ty #[.map (some b), .int .i64 x]).run Try.prog w = .ok (.tuple #[]) w' ∧ MapAt w' b (k - 1) (fun z => if z = x then none else f z) ∧ w.grownBy w' (some b) := by
  obtain ⟨D, h1, h2, h3, h4⟩ := h
  have ht := h1.tidy place_keyed
  obtain ⟨w', hrun, ho, hg⟩ := h1.drop place_keyed Try.underlying93 (keyI x hx) ty
  refine ⟨w', hrun, ⟨_, tightI ho, ?_, fun y => ?_, fun y => ?_⟩, hg.grown⟩
  · have := size_del (k := .int .i64 x) ht
    rw [h4, hf, if_pos rfl] at this
    omega
  · by_cases e : y = x
    · subst e
      rw [atKey_del_same]; simp
    · rw [atKey_del_other (by simpa using e), h3]; simp [e]
  · by_cases e : y = x
    · subst e
      rw [has_del_same]; simp
    · rw [has_del_other (by simpa using e), h4]; simp [e]
end Go.Proofs.Ytdhcmnbajkpjiaa
/-
  A queue in memory; New; what is told of a queue that New gave.
-/
namespace Go.Proofs.Ytdhcmnbajkpjiaa
open Go.RowKit
open Go.Maps
set_option linter.unusedVariables false
set_option linter.unusedSimpArgs false
attribute [local go_sem] drewN_alloc drewN_setCell

/-- The cells of a queue. -/
def qcells (C1 C2 Sb Db : Nat) (ids gens : List Int) : List Value :=
  [.pointer (some ⟨C1, 0, none⟩), .pointer (some ⟨C2, 0, none⟩), .pointer (some ⟨Sb, 0, none⟩), .map (some Db)] ++ (ids ++ gens).map (Value.int .i64)
theorem qcells_id {C1 C2 Sb Db : Nat} {ids gens : List Int} {p : Nat} (h : p < ids.length) : (qcells C1 C2 Sb Db ids gens)[4 + p]? = some (.int .i64 (ids.getD p 0)) := by
  unfold qcells
  rw [List.getElem?_append_right (by simp), List.getElem?_map]
  simp [List.getElem?_append_left h, List.getD, h]
theorem qcells_gen {C1 C2 Sb Db : Nat} {ids gens : List Int} {p : Nat} (hi : ids.length = 256) (h : p < gens.length) : (qcells C1 C2 Sb Db ids gens)[260 + p]? = some (.int .i64 (gens.getD p 0)) := by
  unfold qcells
  rw [List.getElem?_append_right (by simp; omega), List.getElem?_map]
  have e : 260 + p - [Value.pointer (some ⟨C1, 0, none⟩), .pointer (some ⟨C2, 0, none⟩), .pointer (some ⟨Sb, 0, none⟩), .map (some Db)].length = ids.length + p := by simp; omega
  rw [e, List.getElem?_append_right (by omega)]
  simp [List.getD, h]
theorem qcells_set {C1 C2 Sb Db : Nat} {ids gens : List Int} {p : Nat} (x y : Int) (hi : ids.length = 256) (h : p < 256) : ((qcells C1 C2 Sb Db ids gens).set (4 + p) (.int .i64 x)).set (260 + p) (.int .i64 y) = qcells C1 C2 Sb Db (ids.set p x) (gens.set p y) := by
  unfold qcells
  rw [List.set_append_right _ _ (by simp), List.set_append_right _ _ (by simp; omega)]
  congr 1
  have e1 : 4 + p - [Value.pointer (some ⟨C1, 0, none⟩), .pointer (some ⟨C2, 0, none⟩), .pointer (some ⟨Sb, 0, none⟩), .map (some Db)].length = p := by simp
  have e2 : 260 + p - [Value.pointer (some ⟨C1, 0, none⟩), .pointer (some ⟨C2, 0, none⟩), .pointer (some ⟨Sb, 0, none⟩), .map (some Db)].length = ids.length + p := by simp; omega
  rw [e1, e2, ← List.map_set, ← List.map_set, List.set_append_left _ _ (by omega), List.set_append_right _ _ (by simp)]
  simp
/-- A queue in memory. Its blocks: b 0 the queue; 1 to 3, 4 to 6 the two chains; 7 to 9 the slots; 10 the map. -/
structure QAt (B : Nat) (w : World) (b : Nat → Nat) (v : Value) (S : QSt) (k : Nat) : Prop where
  row : RowAt w (b 0) 96 (qcells (b 1) (b 4) (b 7) (b 10) S.ids S.gens)
  c1 : ChainRows w (b 1) (b 2) (b 3) 256 1 S.R1
  c2 : ChainRows w (b 4) (b 5) (b 6) 256 64 S.R2
  sl : SlotsAt B w (b 7) (b 8) (b 9) 256 v S.g S.O S.cl S.fr
  mp : MapAt w (b 10) k S.f
  inj : ∀ i j, i < 11 → j < 11 → b i = b j → i = j
  lt : ∀ i, i < 11 → b i < B
  bw : B ≤ w.heap.size
variable {B : Nat} {w w' : World} {b : Nat → Nat} {v : Value} {S : QSt} {k : Nat}
theorem QAt.ne (h : QAt B w b v S k) (i j : Nat) (hi : i < 11) (hj : j < 11) (hij : i ≠ j) : b i ≠ b j := fun e => hij (h.inj i j hi hj e)
theorem QAt.f0 (h : QAt B w b v S k) : w.cell? ⟨b 0, 0, none⟩ = some (.pointer (some ⟨b 1, 0, none⟩)) := by rw [h.row.cell]; rfl
theorem QAt.f1 (h : QAt B w b v S k) : w.cell? ⟨b 0, 1, none⟩ = some (.pointer (some ⟨b 4, 0, none⟩)) := by rw [h.row.cell]; rfl
theorem QAt.f2 (h : QAt B w b v S k) : w.cell? ⟨b 0, 2, none⟩ = some (.pointer (some ⟨b 7, 0, none⟩)) := by rw [h.row.cell]; rfl
theorem QAt.f3 (h : QAt B w b v S k) : w.cell? ⟨b 0, 3, none⟩ = some (.map (some (b 10))) := by rw [h.row.cell]; rfl
theorem QAt.of_blocks (h : QAt B w b v S k) (e : ∀ j, ((∃ i, i < 11 ∧ j = b i) ∨ v.ownBlock = some j) → w'.heap[j]? = w.heap[j]?) (hs : w.heap.size ≤ w'.heap.size) : QAt B w' b v S k :=
  ⟨h.row.of_block (e _ (.inl ⟨0, by omega, rfl⟩)), h.c1.of_blocks (fun j hj => by
    rcases hj with rfl | rfl | rfl
    · exact e _ (.inl ⟨1, by omega, rfl⟩)
    · exact e _ (.inl ⟨2, by omega, rfl⟩)
    · exact e _ (.inl ⟨3, by omega, rfl⟩)), h.c2.of_blocks (fun j hj => by
    rcases hj with rfl | rfl | rfl
    · exact e _ (.inl ⟨4, by omega, rfl⟩)
    · exact e _ (.inl ⟨5, by omega, rfl⟩)
    · exact e _ (.inl ⟨6, by omega, rfl⟩)), h.sl.of_blocks (fun j _ hj => by
    rcases hj with rfl | rfl | rfl | hj
    · exact e _ (.inl ⟨7, by omega, rfl⟩)
    · exact e _ (.inl ⟨8, by omega, rfl⟩)
    · exact e _ (.inl ⟨9, by omega, rfl⟩)
    · exact e _ (.inr hj)), h.mp.of_block (e _ (.inl ⟨10, by omega, rfl⟩)), h.inj, h.lt, Nat.le_trans h.bw hs⟩
theorem QAt.below (h : QAt B w b v S k) (hb : Below w.heap.size w w') : QAt B w' b v S k := h.of_blocks (fun j hj => hb.block j (by
  rcases hj with ⟨i, hi, rfl⟩ | hj
  · exact Nat.lt_of_lt_of_le (h.lt i hi) h.bw
  · exact (World.ownsRow.lt h.sl.own j hj).2)) hb.size

section
variable {P : Program} {ops : Array Oper} {rest : List Oper} {o : Oper} {a : Act} {Q : Exit → Act → World → Prop}
/-- One operation that yields v, in a world that may be another one. -/
theorem wpList_yields (hg : o.guard = none) {x : Value} (hrun : (execOp a.eval o).run P w = .ok (.value x) w') (h : wpList P ops Q rest (a.put o.dst x) w') : wpList P ops Q (o :: rest) a w :=
  wpList_plain hg fun K' hK' => by
    unfold Oper.wp
    rw [hrun]
    exact hK' _ _ h
end
def z256 : List Int := List.replicate 256 0
theorem q_build {a : Act} {o : Oper} {C1 C2 Sb Db : Nat} (ho : o.op = .build 96 #[(0, .tmp 1), (1, .tmp 2), (2, .tmp 3), (3, .tmp 4)]) (h1 : a.eval (.tmp 1) = .pointer (some ⟨C1, 0, none⟩)) (h2 : a.eval (.tmp 2) = .pointer (some ⟨C2, 0, none⟩)) (h3 : a.eval (.tmp 3) = .pointer (some ⟨Sb, 0, none⟩)) (h4 : a.eval (.tmp 4) = .map (some Db)) :
    (execOp a.eval o).run Try.prog w = .ok (.value (.agg (qcells C1 C2 Sb Db z256 z256).toArray)) w := by
  unfold execOp
  simp only [ho, List.map_toArray, List.map_cons, List.map_nil, h1, h2, h3, h4]
  kernel_rfl
end Go.Proofs.Ytdhcmnbajkpjiaa
/-
  A forest: New; a forest that New did not give.
-/
namespace Go.Proofs.Ytdhcmnbajkpjiaa
open Go.RowKit
open Go.Maps
set_option linter.unusedVariables false
set_option linter.unusedSimpArgs false
attribute [local go_sem] drewN_alloc drewN_setCell
variable {B : Nat} {w : World} {Fb Sb Gb Mb Pb C Nb Lb n : Nat} {v : Value} {g up : List Int} {O cl : List Nat} {fr : Nat} {R : Nat → List Nat}

/-- A forest without nodes, of new memory. -/
def MadeForest (n : Nat) (w : World) (e : Ending) (w' : World) : Prop :=
  ∃ Fb Sb Gb Mb Pb C Nb Lb, e = .returned (.pointer (some ⟨Fb, 0, none⟩)) ∧ NodeAt w'.heap.size w' Fb Sb Gb Mb Pb C Nb Lb n (.slice none 0 0) (List.replicate n 0) (List.replicate n 0) [] [] 0 PC.none0 ∧ Below w.heap.size w w' ∧
    (w.heap.size ≤ Fb ∧ w.heap.size ≤ Sb ∧ w.heap.size ≤ Gb ∧ w.heap.size ≤ Mb ∧ w.heap.size ≤ Pb ∧ w.heap.size ≤ C ∧ w.heap.size ≤ Nb ∧ w.heap.size ≤ Lb)
theorem FI.none (n : Nat) (hn : n ≤ 4096) : FI n (List.replicate n 0) [] [] 0 PC.none0 :=
  ⟨⟨List.nodup_nil, List.nodup_nil, fun _ h => by simp at h, fun _ h => by simp at h, Nat.zero_le _, by omega⟩, fun x i _ hx => by simp [PC.none0] at hx, fun x hx => by simp at hx, fun x i _ hx => by simp [PC.none0] at hx, hn⟩
theorem node_New_no (x : Int) (w : World) (hx : x < 0 ∨ 4096 < x) : Calls Try.prog 36 #[.int .i64 x] w fun e w' => e = .returned (.pointer none) ∧ w = w' := by
  by_cases h0 : x < 0
  · have q : decide (x < 0) = true := decide_eq_true h0
    go_enter Try.func36, Try.ntmps36
    go_wp2_with fail
    go_ret
    exact ⟨rfl, rfl⟩
  · have q : decide (x < 0) = false := decide_eq_false h0
    have q2 : decide (4096 < x) = true := decide_eq_true (hx.resolve_left h0)
    have q3 := hx.resolve_left h0
    clear hx
    go_enter Try.func36, Try.ntmps36
    go_wp2_with fail
    go_ret
    exact ⟨rfl, rfl⟩
theorem forest_made {w W : World} {Sb Gb Mb Pb C Nb Lb n : Nat} (hs : ∀ B', (Sb < B' ∧ Gb < B' ∧ Mb < B') → SlotsAt B' W Sb Gb Mb n (.slice none 0 0) (List.replicate n 0) [] [] 0) (hc : ChainRows W C Nb Lb n (n + 1) PC.none0) (hp : RowAt W Pb 3 ((List.replicate n (0 : Int)).map (Value.int .i64)))
    (hn : [Sb, Gb, Mb, Pb, C, Nb, Lb].Nodup) (hb : Below w.heap.size w W) (hge : w.heap.size ≤ Sb ∧ w.heap.size ≤ Gb ∧ w.heap.size ≤ Mb ∧ w.heap.size ≤ Pb ∧ w.heap.size ≤ C ∧ w.heap.size ≤ Nb ∧ w.heap.size ≤ Lb) (hlt : Sb < W.heap.size ∧ Gb < W.heap.size ∧ Mb < W.heap.size) :
    MadeForest n w (.returned (.pointer (some ⟨W.heap.size, 0, none⟩))) (W.alloc (.cells #[.pointer (some ⟨Sb, 0, none⟩), .pointer (some ⟨C, 0, none⟩), .slice (some ⟨Pb, 0, none⟩) n n] 77)) := by
  obtain ⟨c1, c2, c3⟩ := hc.lt1
  have pl := hp.lt
  have hsz : (W.alloc (.cells #[.pointer (some ⟨Sb, 0, none⟩), .pointer (some ⟨C, 0, none⟩), .slice (some ⟨Pb, 0, none⟩) n n] 77)).heap.size = W.heap.size + 1 := by simp
  have hbA : Below W.heap.size W (W.alloc (.cells #[.pointer (some ⟨Sb, 0, none⟩), .pointer (some ⟨C, 0, none⟩), .slice (some ⟨Pb, 0, none⟩) n n] 77)) := bel_alloc (Below.refl _ _) _
  refine ⟨W.heap.size, Sb, Gb, Mb, Pb, C, Nb, Lb, rfl, ⟨RowAt.new W 77 _, hp.keep hbA, by simp, (hs _ (by omega)).below hbA, hc.keep hbA, ?_, by omega, Nat.le_refl _⟩, bel_trans' hb hbA hb.size, ?_⟩
  · refine List.nodup_cons.2 ⟨fun hm => ?_, hn⟩
    simp only [List.mem_cons, List.not_mem_nil, or_false] at hm
    omega
  · have := hb.size; omega
theorem nodup7 {a b c d e f g : Nat} (h1 : a ≠ b ∧ a ≠ c ∧ a ≠ d ∧ a ≠ e ∧ a ≠ f ∧ a ≠ g) (h2 : b ≠ c ∧ b ≠ d ∧ b ≠ e ∧ b ≠ f ∧ b ≠ g) (h3 : c ≠ d ∧ c ≠ e ∧ c ≠ f ∧ c ≠ g) (h4 : d ≠ e ∧ d ≠ f ∧ d ≠ g) (h5 : e ≠ f ∧ e ≠ g) (h6 : f ≠ g) : [a, b, c, d, e, f, g].Nodup := by
  simp only [List.nodup_cons, List.mem_cons, List.not_mem_nil, or_false, not_or, not_false_eq_true, List.nodup_nil, and_true]
  exact ⟨h1, h2, h3, h4, h5, h6⟩
def ALLOCF (Sb C Pb n : Nat) : Obj := .cells #[.pointer (some ⟨Sb, 0, none⟩), .pointer (some ⟨C, 0, none⟩), .slice (some ⟨Pb, 0, none⟩) n n] 77
theorem undrew {w u : World} (h : Below w.drew.heap.size w.drew u) : Below w.heap.size w u := ⟨h.os, h.tape, h.output, h.size, h.block⟩
theorem made1 {n : Nat} {w u1 u5 : World} {Z : Array Value} {C Nb Lb : Nat} (HZ : RowAt (u5.alloc (.cells Z 3)) u5.heap.size 3 ((List.replicate n (0 : Int)).map (Value.int .i64))) (z1 : u1.heap.size = w.heap.size + 3)
    (h1 : ∀ B', w.heap.size + 3 ≤ B' → SlotsAt B' u1 (w.heap.size + 2) w.heap.size (w.heap.size + 1) n (.slice none 0 0) (List.replicate n 0) [] [] 0) (b1 : Below w.heap.size w u1) (h5 : ChainRows u5 C Nb Lb n (n + 1) PC.none0) (b5 : Below u1.heap.size u1 u5)
    (x1 : u1.heap.size ≤ C) (x2 : u1.heap.size ≤ Nb) (x3 : u1.heap.size ≤ Lb) : MadeForest n w (.returned (.pointer (some ⟨u5.heap.size + 1, 0, none⟩))) ((u5.alloc (.cells Z 3)).alloc (ALLOCF (w.heap.size + 2) C u5.heap.size n)) := by
  obtain ⟨y1, y2, y3⟩ := h5.lt1
  obtain ⟨a1, a2, a3⟩ : C ≠ Nb ∧ C ≠ Lb ∧ Nb ≠ Lb := by obtain ⟨St, hSt, _⟩ := id h5; exact ⟨hSt.aCN, hSt.aCL, hSt.aNL⟩
  have zz := b5.size
  have hA : Below u5.heap.size u5 (u5.alloc (.cells Z 3)) := bel_alloc (Below.refl _ _) _
  have e : (u5.alloc (.cells Z 3)).heap.size = u5.heap.size + 1 := by simp
  have K := forest_made (w := w) (W := u5.alloc (.cells Z 3)) (Pb := u5.heap.size) (fun B' hB' => ((h1 B' (by omega)).below b5).below hA) (h5.keep hA) HZ
    (nodup7 (by omega) (by omega) (by omega) (by omega) (by omega) (by omega)) (bel_trans' (bel_trans b1 b5) hA (by omega)) (by omega) (by omega)
  rw [e] at K
  exact K
theorem made2 {n : Nat} {w u1 u5 : World} {Z : Array Value} {C Nb Lb : Nat} (HZ : RowAt (u1.alloc (.cells Z 3)) u1.heap.size 3 ((List.replicate n (0 : Int)).map (Value.int .i64))) (z1 : u1.heap.size = w.heap.size + 3)
    (h1 : ∀ B', w.heap.size + 3 ≤ B' → SlotsAt B' u1 (w.heap.size + 2) w.heap.size (w.heap.size + 1) n (.slice none 0 0) (List.replicate n 0) [] [] 0) (b1 : Below w.heap.size w u1) (h5 : ChainRows u5 C Nb Lb n (n + 1) PC.none0) (b5 : Below (u1.alloc (.cells Z 3)).heap.size (u1.alloc (.cells Z 3)) u5)
    (x1 : (u1.alloc (.cells Z 3)).heap.size ≤ C) (x2 : (u1.alloc (.cells Z 3)).heap.size ≤ Nb) (x3 : (u1.alloc (.cells Z 3)).heap.size ≤ Lb) : MadeForest n w (.returned (.pointer (some ⟨u5.heap.size, 0, none⟩))) (u5.alloc (ALLOCF (w.heap.size + 2) C (w.heap.size + 3) n)) := by
  obtain ⟨y1, y2, y3⟩ := h5.lt1
  obtain ⟨a1, a2, a3⟩ : C ≠ Nb ∧ C ≠ Lb ∧ Nb ≠ Lb := by obtain ⟨St, hSt, _⟩ := id h5; exact ⟨hSt.aCN, hSt.aCL, hSt.aNL⟩
  have zz := b5.size
  have hA : Below u1.heap.size u1 (u1.alloc (.cells Z 3)) := bel_alloc (Below.refl _ _) _
  have e : (u1.alloc (.cells Z 3)).heap.size = u1.heap.size + 1 := by simp
  rw [e] at zz x1 x2 x3
  have hp := HZ.keep b5
  rw [z1] at hp
  exact forest_made (w := w) (W := u5) (Pb := w.heap.size + 3) (fun B' hB' => ((h1 B' (by omega)).below hA).below b5) h5 hp
    (nodup7 (by omega) (by omega) (by omega) (by omega) (by omega) (by omega)) (bel_trans (bel_trans b1 hA) b5) (by omega) (by omega)
theorem made3 {n : Nat} {w u1 u5 : World} {Z : Array Value} {C Nb Lb : Nat} (HZ : RowAt (w.alloc (.cells Z 3)) w.heap.size 3 ((List.replicate n (0 : Int)).map (Value.int .i64))) (z1 : u1.heap.size = (w.alloc (.cells Z 3)).heap.size + 3)
    (h1 : ∀ B', (w.alloc (.cells Z 3)).heap.size + 3 ≤ B' → SlotsAt B' u1 ((w.alloc (.cells Z 3)).heap.size + 2) (w.alloc (.cells Z 3)).heap.size ((w.alloc (.cells Z 3)).heap.size + 1) n (.slice none 0 0) (List.replicate n 0) [] [] 0) (b1 : Below (w.alloc (.cells Z 3)).heap.size (w.alloc (.cells Z 3)) u1) (h5 : ChainRows u5 C Nb Lb n (n + 1) PC.none0) (b5 : Below u1.heap.size u1 u5)
    (x1 : u1.heap.size ≤ C) (x2 : u1.heap.size ≤ Nb) (x3 : u1.heap.size ≤ Lb) : MadeForest n w (.returned (.pointer (some ⟨u5.heap.size, 0, none⟩))) (u5.alloc (ALLOCF (w.heap.size + 1 + 2) C w.heap.size n)) := by
  obtain ⟨y1, y2, y3⟩ := h5.lt1
  obtain ⟨a1, a2, a3⟩ : C ≠ Nb ∧ C ≠ Lb ∧ Nb ≠ Lb := by obtain ⟨St, hSt, _⟩ := id h5; exact ⟨hSt.aCN, hSt.aCL, hSt.aNL⟩
  have zz := b5.size
  have hA : Below w.heap.size w (w.alloc (.cells Z 3)) := bel_alloc (Below.refl _ _) _
  have e : (w.alloc (.cells Z 3)).heap.size = w.heap.size + 1 := by simp
  have hp := (HZ.keep b1).keep b5
  rw [e] at z1 h1
  exact forest_made (w := w) (W := u5) (Pb := w.heap.size) (fun B' hB' => (h1 B' (by omega)).below b5) h5 hp
    (nodup7 (by omega) (by omega) (by omega) (by omega) (by omega) (by omega)) (bel_trans (bel_trans hA b1) b5) (by omega) (by omega)
set_option maxRecDepth 100000 in
set_option maxHeartbeats 8000000 in
theorem node_New (n : Nat) (w : World) (hn : n ≤ 4096) : Calls Try.prog 36 #[.int .i64 (n : Int)] w (MadeForest n w) := by
  have hinfo : (Try.prog.info? 3).map (fun i => (i.zero, i.size, i.bytes)) = some (some (.int .i64 0), 1, 8) := by kernel_rfl
  have hmk := run_make_row' (P := Try.prog) 27 3 (.int .i64 0) 8 Try.underlying27 hinfo rfl .i64 .i64 n (by omega) (by omega)
  rw [made_ints] at hmk
  obtain ⟨Z, hZ⟩ : ∃ Z, ((List.replicate n (0 : Int)).map (Value.int .i64)).toArray = Z := ⟨_, rfl⟩
  rw [hZ] at hmk
  have HZ : Hid (∀ W : World, RowAt (W.alloc (.cells Z 3)) W.heap.size 3 ((List.replicate n (0 : Int)).map (Value.int .i64))) := Lib.hid (fun W => by rw [← hZ]; exact RowAt.new W _ _)
  have KS := Lib.hid (fun W => slots_New n W (by omega))
  have KC : Hid (∀ W, Calls Try.prog 18 #[.int .i64 ((n : Int) + 1), .int .i64 (n : Int)] W (MadeChain W n (n + 1))) := Lib.hid (fun W => by
    have K := chain_New_yes (n + 1) n W (by omega) (by omega)
    have e : ((n + 1 : Nat) : Int) = (n : Int) + 1 := by omega
    rwa [e] at K)
  have q1 : decide ((n : Int) < 0) = false := decide_eq_false (by omega)
  have q1' : ¬ (n : Int) < 0 := by omega
  have q2 : decide ((4096 : Int) < (n : Int)) = false := decide_eq_false (by omega)
  have q2' : ¬ (4096 : Int) < (n : Int) := by omega
  have wn : IntKind.i64.wrap ((n : Int) + 1) = (n : Int) + 1 := by rw [IntKind.wrap_i64]; omega
  clear hinfo hZ
  go_enter Try.func36, Try.ntmps36
  go_wp2_with fail
  refine wp_region_held_drew (S := (fun W : World => W.heap.size = W.heap.size)) (by kernel_rfl) ?_ (fun hHeld => ?_)
  focus ((try dsimp only); all_goals trivial)
  refine tk_yes 0 (v := ?_) rfl (by kernel_rfl) (by kernel_rfl) (by kernel_rfl) (fun _ _ _ h => h) (by kernel_rfl) (by first | assumption | trivial) ?_ ?_; rotate_left; (focus (intro w hSw; (try dsimp only at hSw); go_simp; (first | done | (with_reducible rfl)))); (try simp only [Act.put, List.setIfInBounds_toArray, List.set_cons_zero, List.set_cons_succ])
  refine tk_yes 2 (v := ?_) rfl (by kernel_rfl) (by kernel_rfl) (by kernel_rfl) (fun _ _ _ h => h) (by kernel_rfl) (by first | assumption | trivial) ?_ ?_; rotate_left; (focus (intro w hSw; (try dsimp only at hSw); go_simp; (first | done | (with_reducible rfl)))); (try simp only [Act.put, List.setIfInBounds_toArray, List.set_cons_zero, List.set_cons_succ])
  refine tk_yes 3 (v := ?_) rfl (by kernel_rfl) (by kernel_rfl) (by kernel_rfl) (fun _ _ _ h => h) (by kernel_rfl) (by first | assumption | trivial) ?_ ?_; rotate_left; (focus (intro w hSw; (try dsimp only at hSw); go_simp; (first | done | (with_reducible rfl)))); (try simp only [Act.put, List.setIfInBounds_toArray, List.set_cons_zero, List.set_cons_succ])
  refine tk_yes 4 (v := ?_) rfl (by kernel_rfl) (by kernel_rfl) (by kernel_rfl) (fun _ _ _ h => h) (by kernel_rfl) (by first | assumption | trivial) ?_ ?_; rotate_left; (focus (intro w hSw; (try dsimp only at hSw); go_simp; (first | done | (with_reducible rfl)))); (try simp only [Act.put, List.setIfInBounds_toArray, List.set_cons_zero, List.set_cons_succ])
  refine tk_yes 6 (v := ?_) rfl (by kernel_rfl) (by kernel_rfl) (by kernel_rfl) (fun _ _ _ h => h) (by kernel_rfl) (by first | assumption | trivial) ?_ ?_; rotate_left; (focus (intro w hSw; (try dsimp only at hSw); go_simp; (first | done | (with_reducible rfl)))); (try simp only [Act.put, List.setIfInBounds_toArray, List.set_cons_zero, List.set_cons_succ])
  refine tk_two 1 7 rfl rfl (by kernel_rfl) (by kernel_rfl) (by kernel_rfl) (fun KW hKW => ?_) (fun KW hKW => ?_)
  · go_simp; go_at_call 108; refine (KS.out _).mono ?_; rintro e u1 ⟨rfl, z1, h1, b1⟩; refine hKW.out _ _ ?_ (fun hHeld => ?_); (focus ((try dsimp only); all_goals trivial)); clear hKW KW; (try simp only [Act.put, List.setIfInBounds_toArray, List.set_cons_zero, List.set_cons_succ])
    refine tk_two 5 7 rfl rfl (by kernel_rfl) (by kernel_rfl) (by kernel_rfl) (fun KW hKW => ?_) (fun KW hKW => ?_)
    · go_simp; go_at_call 18; refine (KC.out _).mono ?_; rintro e u5 ⟨C, Nb, Lb, rfl, h5, b5, x1, x2, x3⟩; refine hKW.out _ _ ?_ (fun hHeld => ?_); (focus ((try dsimp only); all_goals trivial)); clear hKW KW; (try simp only [Act.put, List.setIfInBounds_toArray, List.set_cons_zero, List.set_cons_succ])
      refine tk_call 7 rfl (by kernel_rfl) (by kernel_rfl) (fun KW hKW => ?_); go_simp; refine hKW.out _ _ ?_ (fun hHeld => ?_); (focus ((try dsimp only); all_goals trivial)); clear hKW KW; (try simp only [Act.put, List.setIfInBounds_toArray, List.set_cons_zero, List.set_cons_succ])
      refine tk_yes 8 (v := ?_) rfl (by kernel_rfl) (by kernel_rfl) (by kernel_rfl) (fun _ _ _ h => h) (by kernel_rfl) (by first | assumption | trivial) ?_ ?_; rotate_left; (focus (intro w hSw; (try dsimp only at hSw); go_simp; (first | done | (with_reducible rfl)))); (try simp only [Act.put, List.setIfInBounds_toArray, List.set_cons_zero, List.set_cons_succ])
      refine tk_call 9 rfl (by kernel_rfl) (by kernel_rfl) (fun KW hKW => ?_); go_simp; refine hKW.out _ _ ?_ (fun hHeld => ?_); (focus ((try dsimp only); all_goals trivial)); clear hKW KW; (try simp only [Act.put, List.setIfInBounds_toArray, List.set_cons_zero, List.set_cons_succ])
      refine tk_yes 10 (v := ?_) rfl (by kernel_rfl) (by kernel_rfl) (by kernel_rfl) (fun _ _ _ h => h) (by kernel_rfl) (by first | assumption | trivial) ?_ ?_; rotate_left; (focus (intro w hSw; (try dsimp only at hSw); go_simp; (first | done | (with_reducible rfl)))); (try simp only [Act.put, List.setIfInBounds_toArray, List.set_cons_zero, List.set_cons_succ])
      refine wpAnyH_done (by kernel_rfl) ?_ _
      go_wp2_with fail
      exact bodyPost_ret (v := .pointer (some ⟨u5.heap.size + 1, 0, none⟩)) (by simp [results, Try.results36, go_sem]) rfl (made1 (HZ.out u5) z1 h1 (undrew b1) h5 b5 x1 x2 x3)
    · go_simp; refine hKW.out _ _ ?_ (fun hHeld => ?_); (focus ((try dsimp only); all_goals trivial)); clear hKW KW; (try simp only [Act.put, List.setIfInBounds_toArray, List.set_cons_zero, List.set_cons_succ])
      refine tk_call 5 rfl (by kernel_rfl) (by kernel_rfl) (fun KW hKW => ?_); go_simp; go_at_call 18; refine (KC.out _).mono ?_; rintro e u5 ⟨C, Nb, Lb, rfl, h5, b5, x1, x2, x3⟩; refine hKW.out _ _ ?_ (fun hHeld => ?_); (focus ((try dsimp only); all_goals trivial)); clear hKW KW; (try simp only [Act.put, List.setIfInBounds_toArray, List.set_cons_zero, List.set_cons_succ])
      refine tk_yes 8 (v := ?_) rfl (by kernel_rfl) (by kernel_rfl) (by kernel_rfl) (fun _ _ _ h => h) (by kernel_rfl) (by first | assumption | trivial) ?_ ?_; rotate_left; (focus (intro w hSw; (try dsimp only at hSw); go_simp; (first | done | (with_reducible rfl)))); (try simp only [Act.put, List.setIfInBounds_toArray, List.set_cons_zero, List.set_cons_succ])
      refine tk_call 9 rfl (by kernel_rfl) (by kernel_rfl) (fun KW hKW => ?_); go_simp; refine hKW.out _ _ ?_ (fun hHeld => ?_); (focus ((try dsimp only); all_goals trivial)); clear hKW KW; (try simp only [Act.put, List.setIfInBounds_toArray, List.set_cons_zero, List.set_cons_succ])
      refine tk_yes 10 (v := ?_) rfl (by kernel_rfl) (by kernel_rfl) (by kernel_rfl) (fun _ _ _ h => h) (by kernel_rfl) (by first | assumption | trivial) ?_ ?_; rotate_left; (focus (intro w hSw; (try dsimp only at hSw); go_simp; (first | done | (with_reducible rfl)))); (try simp only [Act.put, List.setIfInBounds_toArray, List.set_cons_zero, List.set_cons_succ])
      refine wpAnyH_done (by kernel_rfl) ?_ _
      go_wp2_with fail
      exact bodyPost_ret (v := .pointer (some ⟨u5.heap.size, 0, none⟩)) (by simp [results, Try.results36, go_sem]) rfl (made2 (HZ.out u1) z1 h1 (undrew b1) h5 b5 x1 x2 x3)
  · go_simp; refine hKW.out _ _ ?_ (fun hHeld => ?_); (focus ((try dsimp only); all_goals trivial)); clear hKW KW; (try simp only [Act.put, List.setIfInBounds_toArray, List.set_cons_zero, List.set_cons_succ])
    refine tk_call 1 rfl (by kernel_rfl) (by kernel_rfl) (fun KW hKW => ?_); go_simp; go_at_call 108; refine (KS.out _).mono ?_; rintro e u1 ⟨rfl, z1, h1, b1⟩; refine hKW.out _ _ ?_ (fun hHeld => ?_); (focus ((try dsimp only); all_goals trivial)); clear hKW KW; (try simp only [Act.put, List.setIfInBounds_toArray, List.set_cons_zero, List.set_cons_succ])
    refine tk_call 5 rfl (by kernel_rfl) (by kernel_rfl) (fun KW hKW => ?_); go_simp; go_at_call 18; refine (KC.out _).mono ?_; rintro e u5 ⟨C, Nb, Lb, rfl, h5, b5, x1, x2, x3⟩; refine hKW.out _ _ ?_ (fun hHeld => ?_); (focus ((try dsimp only); all_goals trivial)); clear hKW KW; (try simp only [Act.put, List.setIfInBounds_toArray, List.set_cons_zero, List.set_cons_succ])
    refine tk_yes 8 (v := ?_) rfl (by kernel_rfl) (by kernel_rfl) (by kernel_rfl) (fun _ _ _ h => h) (by kernel_rfl) (by first | assumption | trivial) ?_ ?_; rotate_left; (focus (intro w hSw; (try dsimp only at hSw); go_simp; (first | done | (with_reducible rfl)))); (try simp only [Act.put, List.setIfInBounds_toArray, List.set_cons_zero, List.set_cons_succ])
    refine tk_call 9 rfl (by kernel_rfl) (by kernel_rfl) (fun KW hKW => ?_); go_simp; refine hKW.out _ _ ?_ (fun hHeld => ?_); (focus ((try dsimp only); all_goals trivial)); clear hKW KW; (try simp only [Act.put, List.setIfInBounds_toArray, List.set_cons_zero, List.set_cons_succ])
    refine tk_yes 10 (v := ?_) rfl (by kernel_rfl) (by kernel_rfl) (by kernel_rfl) (fun _ _ _ h => h) (by kernel_rfl) (by first | assumption | trivial) ?_ ?_; rotate_left; (focus (intro w hSw; (try dsimp only at hSw); go_simp; (first | done | (with_reducible rfl)))); (try simp only [Act.put, List.setIfInBounds_toArray, List.set_cons_zero, List.set_cons_succ])
    refine wpAnyH_done (by kernel_rfl) ?_ _
    go_wp2_with fail
    exact bodyPost_ret (v := .pointer (some ⟨u5.heap.size, 0, none⟩)) (by simp [results, Try.results36, go_sem]) rfl (made3 (HZ.out w) z1 h1 (undrew b1) h5 b5 x1 x2 x3)

end Go.Proofs.Ytdhcmnbajkpjiaa
/-
  Queue: the contract of New.
-/
namespace Go.Proofs.Ytdhcmnbajkpjiaa
open Go.RowKit
open Go.Maps
set_option linter.unusedVariables false
set_option linter.unusedSimpArgs false
attribute [local go_sem] drewN_alloc drewN_setCell

theorem nodup_get {l : List Nat} (h : l.Nodup) {i j : Nat} (hi : i < l.length) (hj : j < l.length) (e : l.getD i 0 = l.getD j 0) : i = j := by
  have e' : l[i] = l[j] := by simpa [List.getD, hi, hj] using e
  have hp := List.pairwise_iff_getElem.1 h
  rcases Nat.lt_trichotomy i j with h1 | h1 | h1
  · exact absurd e' (hp i j hi hj h1)
  · exact h1
  · exact absurd e'.symm (hp j i hj hi h1)
/-- A queue of new memory, without tickets. -/
def QMade (w : World) (e : Ending) (w' : World) : Prop :=
  ∃ b v, e = .returned (.pointer (some ⟨b 0, 0, none⟩)) ∧ QAt w'.heap.size w' b v QSt.none 0 ∧ Below w.heap.size w w' ∧ (∀ i, i < 11 → w.heap.size ≤ b i) ∧ v.ownBlock = none
theorem qmap_make (w : World) : (Instr.makeMap 93 none).run Try.prog w = .ok (.map (some w.heap.size)) (w.alloc (.map #[] 0)) := by
  simp [Instr.makeMap, run_underlying Try.underlying93, asInt, asIntOf, Result.andThen]
theorem q_box {a : Act} {o : Oper} {w : World} {C1 C2 Sb Db : Nat} (ho : o.op = .box 96 (.tmp 5)) (h1 : a.eval (.tmp 5) = .agg (qcells C1 C2 Sb Db z256 z256).toArray) :
    (execOp a.eval o).run Try.prog w = .ok (.value (.pointer (some ⟨w.heap.size, 0, none⟩))) (w.alloc (.cells (qcells C1 C2 Sb Db z256 z256).toArray 96)) := by
  unfold execOp
  simp only [ho, h1]
  kernel_rfl
set_option maxRecDepth 100000 in
set_option maxHeartbeats 4000000 in
theorem queue_New (w : World) : Calls Try.prog 56 #[] w (QMade w) := by
  have hmm := qmap_make
  have K1 := Lib.hid (chain_New_yes 1 256 w (by omega) (by omega))
  go_enter Try.func56, Try.ntmps56
  go_wp2_with fail
  refine K1.out.mono ?_
  rintro e w1 ⟨C1, N1, L1, rfl, c1, b1, g1, g2, g3⟩
  have C1' := Lib.hid c1
  have B1 := Lib.hid b1
  have z1 := b1.size
  obtain ⟨y1, y2, y3⟩ := c1.lt1
  obtain ⟨St, hc, -⟩ := c1
  have n1 := hc.aCN
  have n2 := hc.aCL
  have n3 := hc.aNL
  clear hc b1 K1
  have K2 := Lib.hid (chain_New_yes 64 256 w1 (by omega) (by omega))
  go_wp2_with fail
  refine K2.out.mono ?_
  rintro e w2 ⟨C2, N2, L2, rfl, c2, b2, g4, g5, g6⟩
  have C2' := Lib.hid c2
  have B2 := Lib.hid b2
  have z2 := b2.size
  obtain ⟨y4, y5, y6⟩ := c2.lt1
  obtain ⟨St, hc, -⟩ := c2
  have n4 := hc.aCN
  have n5 := hc.aCL
  have n6 := hc.aNL
  clear hc b2 K2
  have K3 := Lib.hid (slots_New 256 w2 (by omega))
  go_wp2_with fail
  refine K3.out.mono ?_
  rintro e w3 ⟨rfl, z3, hs, b3⟩
  have S3 := Lib.hid hs
  have B3 := Lib.hid b3
  clear hs b3 K3
  go_wp2_with (first | (refine wpList_yields rfl (q_build rfl rfl rfl rfl rfl) ?_) | (refine wpList_yields rfl (q_box rfl rfl) ?_))
  go_ret
  have bm : Below w3.heap.size w3 ((w3.alloc (.map #[] 0)).alloc (.cells (qcells C1 C2 (w2.heap.size + 2) (w2.heap.size + 3) z256 z256).toArray 96)) := (by repeat (first | exact Below.refl _ _ | assumption | refine bel_drew ?_ | refine bel_drewN ?_ _ | refine bel_alloc ?_ _ | refine bel_set ?_ (by first | (dsimp only; omega) | (simp; done) | (simp; omega)) _ | refine bel_trans ?_ (by assumption)))
  have bw : Below w.heap.size w ((w3.alloc (.map #[] 0)).alloc (.cells (qcells C1 C2 (w2.heap.size + 2) (w2.heap.size + 3) z256 z256).toArray 96)) := bel_trans (bel_trans (bel_trans B1.out B2.out) B3.out) bm
  have sz : ((w3.alloc (.map #[] 0)).alloc (.cells (qcells C1 C2 (w2.heap.size + 2) (w2.heap.size + 3) z256 z256).toArray 96)).heap.size = w2.heap.size + 5 := by simp; omega
  have rw1 : RowAt ((w3.alloc (.map #[] 0)).alloc (.cells (qcells C1 C2 (w2.heap.size + 2) (w2.heap.size + 3) z256 z256).toArray 96)) (w2.heap.size + 4) 96 (qcells C1 C2 (w2.heap.size + 2) (w2.heap.size + 3) z256 z256) := by
    have := RowAt.new (w3.alloc (.map #[] 0)) 96 (qcells C1 C2 (w2.heap.size + 2) (w2.heap.size + 3) z256 z256)
    rw [World.size_alloc, z3] at this
    exact this
  have mp1 : MapAt ((w3.alloc (.map #[] 0)).alloc (.cells (qcells C1 C2 (w2.heap.size + 2) (w2.heap.size + 3) z256 z256).toArray 96)) (w2.heap.size + 3) 0 (fun _ => none) := by
    have := (MapAt.made w3).of_block (Below.heap_alloc (w3.alloc (.map #[] 0)) (.cells (qcells C1 C2 (w2.heap.size + 2) (w2.heap.size + 3) z256 z256).toArray 96) w3.heap.size (by simp))
    rwa [z3] at this
  have cc1 := ((C1'.out.keep B2.out).keep B3.out).keep bm
  have cc2 := (C2'.out.keep B3.out).keep bm
  have ss := (S3.out (w2.heap.size + 5) (by omega)).below bm
  generalize ((w3.alloc (.map #[] 0)).alloc (.cells (qcells C1 C2 (w2.heap.size + 2) (w2.heap.size + 3) z256 z256).toArray 96)) = W at *
  clear C1' C2' S3 B1 B2 B3 bm hmm
  have hl : [w2.heap.size + 4, C1, N1, L1, C2, N2, L2, w2.heap.size + 2, w2.heap.size, w2.heap.size + 1, w2.heap.size + 3].Nodup := by
    simp only [List.nodup_cons, List.mem_cons, List.not_mem_nil, or_false, not_or, List.nodup_nil, and_true, not_false_eq_true]
    refine ⟨⟨?_, ?_, ?_, ?_, ?_, ?_, ?_, ?_, ?_, ?_⟩, ⟨?_, ?_, ?_, ?_, ?_, ?_, ?_, ?_, ?_⟩, ⟨?_, ?_, ?_, ?_, ?_, ?_, ?_, ?_⟩, ⟨?_, ?_, ?_, ?_, ?_, ?_, ?_⟩, ⟨?_, ?_, ?_, ?_, ?_, ?_⟩, ⟨?_, ?_, ?_, ?_, ?_⟩, ⟨?_, ?_, ?_, ?_⟩, ⟨?_, ?_, ?_⟩, ⟨?_, ?_⟩, ?_⟩
    all_goals first | assumption | omega
  refine ⟨fun i => [w2.heap.size + 4, C1, N1, L1, C2, N2, L2, w2.heap.size + 2, w2.heap.size, w2.heap.size + 1, w2.heap.size + 3].getD i 0, .slice none 0 0, rfl, ⟨rw1, cc1, cc2, (by rw [sz]; exact ss), mp1, fun i j hi hj e => nodup_get hl (by simpa using hi) (by simpa using hj) e, fun i hi => ?_, Nat.le_refl _⟩, bw, fun i hi => ?_, rfl⟩
  all_goals
    have hi' : i = 0 ∨ i = 1 ∨ i = 2 ∨ i = 3 ∨ i = 4 ∨ i = 5 ∨ i = 6 ∨ i = 7 ∨ i = 8 ∨ i = 9 ∨ i = 10 := by omega
    rcases hi' with rfl | rfl | rfl | rfl | rfl | rfl | rfl | rfl | rfl | rfl | rfl <;> (simp only [List.getD_cons_zero, List.getD_cons_succ]; omega)
end Go.Proofs.Ytdhcmnbajkpjiaa
/-
  Queue: what is told of a ticket, a client, a node (at the state).
-/
namespace Go.Proofs.Ytdhcmnbajkpjiaa
open Go.RowKit
open Go.Maps
set_option linter.unusedVariables false
set_option linter.unusedSimpArgs false
attribute [local go_sem] drewN_alloc drewN_setCell

variable {B : Nat} {w w' : World} {b : Nat → Nat} {v : Value} {S : QSt} {k : Nat}
theorem q_neq (d : Nat) (w : World) : (binOp BinOp.neq 93 (.map (some d)) (.map none)).run Try.prog w = .ok (.bool true) w := by kernel_rfl
theorem q_neq0 (w : World) : (binOp BinOp.neq 93 (.map none) (.map none)).run Try.prog w = .ok (.bool false) w := by kernel_rfl
set_option maxRecDepth 100000 in
theorem queue_is (h : QAt B w b v S k) : Calls Try.prog 125 #[.pointer (some ⟨b 0, 0, none⟩)] w fun e w' => e = .returned (.bool true) ∧ w = w' := by
  have f3 := h.f3
  have hq := q_neq
  clear h
  go_enter Try.func125, Try.ntmps125
  go_wp2_with fail
  go_ret
  exact ⟨rfl, rfl⟩
theorem queue_find (x : Int) (hx : BdI x) (h : QAt B w b v S k) : Calls Try.prog 126 #[.pointer (some ⟨b 0, 0, none⟩), .int .i64 x] w fun e w' => e = .returned (.int .i64 ((S.f x).getD (-1))) ∧ w = w' := by
  have f3 := h.f3
  have K := Lib.hid (queue_is h)
  have hl := h.mp.look x hx
  clear h
  rcases hf : S.f x with _ | p
  · rw [hf] at hl
    go_enter Try.func126, Try.ntmps126
    go_wp2_with fail
    refine K.out.mono ?_
    rintro e w1 ⟨rfl, rfl⟩
    go_wp2_with fail
    go_ret
    exact ⟨rfl, rfl⟩
  · rw [hf] at hl
    go_enter Try.func126, Try.ntmps126
    go_wp2_with fail
    refine K.out.mono ?_
    rintro e w1 ⟨rfl, rfl⟩
    go_wp2_with fail
    go_ret
    exact ⟨rfl, rfl⟩
/-- The ticket of a node; of a number below 0 none. -/
def idV (S : QSt) (x : Int) : Int := if x < 0 then 0 else S.ids.getD x.toNat 0
theorem queue_id (x : Int) (hi : S.ids.length = 256) (hx : x < 256) (h : QAt B w b v S k) : Calls Try.prog 132 #[.pointer (some ⟨b 0, 0, none⟩), .int .i64 x] w fun e w' => e = .returned (.int .i64 (idV S x)) ∧ w = w' := by
  by_cases h0 : x < 0
  · have HE : Hid (0 = idV S x) := Lib.hid (by unfold idV; rw [if_pos h0])
    clear h
    go_enter Try.func132, Try.ntmps132
    go_wp2_with fail
    go_ret
    exact ⟨ret_int HE.out, rfl⟩
  · obtain ⟨p, rfl⟩ : ∃ p : Nat, x = p := ⟨x.toNat, by omega⟩
    have HE : Hid (S.ids.getD p 0 = idV S p) := Lib.hid (by unfold idV; rw [if_neg h0]; rfl)
    have c0 : w.cell? ⟨b 0, 4 + p, none⟩ = some (.int .i64 (S.ids.getD p 0)) := by rw [h.row.cell]; exact qcells_id (by omega)
    generalize S.ids.getD p 0 = y at *
    have g0 : (0 : Int) ≤ (p : Int) := by omega
    have g1 : (p : Int) < 256 := hx
    clear h
    go_enter Try.func132, Try.ntmps132
    go_wp2_with fail
    go_ret
    exact ⟨ret_int HE.out, rfl⟩
theorem queue_First (hi : S.ids.length = 256) (hn : PC.headD (PC.rowV 1 S.R1 0) < 256) (h : QAt B w b v S k) : Calls Try.prog 64 #[.pointer (some ⟨b 0, 0, none⟩)] w fun e w' => e = .returned (.int .i64 (idV S (PC.headD (PC.rowV 1 S.R1 0)))) ∧ w = w' := by
  have K0 := Lib.hid (queue_is h)
  have f0 := h.f0
  have K1 := Lib.hid (chain_First 0 h.c1)
  have K2 := Lib.hid (queue_id _ hi hn h)
  generalize idV S (PC.headD (PC.rowV 1 S.R1 0)) = z at *
  generalize PC.headD (PC.rowV 1 S.R1 0) = y at *
  clear h hi hn
  go_enter Try.func64, Try.ntmps64
  go_wp2_with fail
  refine K0.out.mono ?_
  rintro e w1 ⟨rfl, rfl⟩
  go_wp2_with fail
  refine K1.out.mono ?_
  rintro e w1 ⟨rfl, rfl⟩
  go_wp2_with fail
  refine K2.out.mono ?_
  rintro e w1 ⟨rfl, rfl⟩
  go_wp2_with fail
  go_ret
  exact ⟨rfl, rfl⟩
theorem queue_Head (c : Int) (hi : S.ids.length = 256) (hn : PC.headD (PC.rowV 64 S.R2 c) < 256) (h : QAt B w b v S k) : Calls Try.prog 66 #[.pointer (some ⟨b 0, 0, none⟩), .int .i64 c] w fun e w' => e = .returned (.int .i64 (idV S (PC.headD (PC.rowV 64 S.R2 c)))) ∧ w = w' := by
  have K0 := Lib.hid (queue_is h)
  have f1 := h.f1
  have K1 := Lib.hid (chain_First c h.c2)
  have K2 := Lib.hid (queue_id _ hi hn h)
  generalize idV S (PC.headD (PC.rowV 64 S.R2 c)) = z at *
  generalize PC.headD (PC.rowV 64 S.R2 c) = y at *
  clear h hi hn
  go_enter Try.func66, Try.ntmps66
  go_wp2_with fail
  refine K0.out.mono ?_
  rintro e w1 ⟨rfl, rfl⟩
  go_wp2_with fail
  refine K1.out.mono ?_
  rintro e w1 ⟨rfl, rfl⟩
  go_wp2_with fail
  refine K2.out.mono ?_
  rintro e w1 ⟨rfl, rfl⟩
  go_wp2_with fail
  go_ret
  exact ⟨rfl, rfl⟩
theorem queue_Len (h : QAt B w b v S k) : Calls Try.prog 67 #[.pointer (some ⟨b 0, 0, none⟩)] w fun e w' => e = .returned (.int .i64 ((PC.rowV 1 S.R1 0).length : Nat)) ∧ w = w' := by
  have K0 := Lib.hid (queue_is h)
  have f0 := h.f0
  have K1 := Lib.hid (chain_Len 0 h.c1)
  generalize (PC.rowV 1 S.R1 0).length = y at *
  clear h
  go_enter Try.func67, Try.ntmps67
  go_wp2_with fail
  refine K0.out.mono ?_
  rintro e w1 ⟨rfl, rfl⟩
  go_wp2_with fail
  refine K1.out.mono ?_
  rintro e w1 ⟨rfl, rfl⟩
  go_wp2_with fail
  go_ret
  exact ⟨rfl, rfl⟩
theorem queue_Next_no (x : Int) (hx : BdI x) (hf : S.f x = none) (h : QAt B w b v S k) : Calls Try.prog 65 #[.pointer (some ⟨b 0, 0, none⟩), .int .i64 x] w fun e w' => e = .returned (.int .i64 0) ∧ w = w' := by
  have K0 := queue_find x hx h
  rw [hf] at K0
  replace K0 := Lib.hid K0
  clear h hf
  go_enter Try.func65, Try.ntmps65
  go_wp2_with fail
  refine K0.out.mono ?_
  rintro e w1 ⟨rfl, rfl⟩
  go_wp2_with fail
  go_ret
  exact ⟨rfl, rfl⟩
theorem queue_Next (x : Int) (p : Nat) (hx : BdI x) (hf : S.f x = some (p : Int)) (hi : S.ids.length = 256) (hn : PC.nextV 1 S.R1 (p : Int) < 256) (h : QAt B w b v S k) : Calls Try.prog 65 #[.pointer (some ⟨b 0, 0, none⟩), .int .i64 x] w fun e w' => e = .returned (.int .i64 (idV S (PC.nextV 1 S.R1 (p : Int)))) ∧ w = w' := by
  have K0 := queue_find x hx h
  rw [hf] at K0
  replace K0 : Hid (Calls Try.prog 126 #[.pointer (some ⟨b 0, 0, none⟩), .int .i64 x] w fun e w' => e = .returned (.int .i64 (p : Int)) ∧ w = w') := Lib.hid K0
  have f0 := h.f0
  have K1 := Lib.hid (chain_Next (p : Int) h.c1)
  have K2 := Lib.hid (queue_id _ hi hn h)
  generalize idV S (PC.nextV 1 S.R1 (p : Int)) = z at *
  generalize PC.nextV 1 S.R1 (p : Int) = y at *
  have g0 : (0 : Int) ≤ (p : Int) := by omega
  clear h hi hn hf
  go_enter Try.func65, Try.ntmps65
  go_wp2_with fail
  refine K0.out.mono ?_
  rintro e w1 ⟨rfl, rfl⟩
  go_wp2_with fail
  refine K1.out.mono ?_
  rintro e w1 ⟨rfl, rfl⟩
  go_wp2_with fail
  refine K2.out.mono ?_
  rintro e w1 ⟨rfl, rfl⟩
  go_wp2_with fail
  go_ret
  exact ⟨rfl, rfl⟩
theorem queue_Client_no (x : Int) (hx : BdI x) (hf : S.f x = none) (h : QAt B w b v S k) : Calls Try.prog 69 #[.pointer (some ⟨b 0, 0, none⟩), .int .i64 x] w fun e w' => e = .returned (.int .i64 (-1)) ∧ w = w' := by
  have K0 := queue_find x hx h
  rw [hf] at K0
  replace K0 := Lib.hid K0
  clear h hf
  go_enter Try.func69, Try.ntmps69
  go_wp2_with fail
  refine K0.out.mono ?_
  rintro e w1 ⟨rfl, rfl⟩
  go_wp2_with fail
  go_ret
  exact ⟨rfl, rfl⟩
theorem queue_Client (x : Int) (p : Nat) (hx : BdI x) (hf : S.f x = some (p : Int)) (h : QAt B w b v S k) : Calls Try.prog 69 #[.pointer (some ⟨b 0, 0, none⟩), .int .i64 x] w fun e w' => e = .returned (.int .i64 (PC.ofV 64 S.R2 (p : Int))) ∧ w = w' := by
  have K0 := queue_find x hx h
  rw [hf] at K0
  replace K0 : Hid (Calls Try.prog 126 #[.pointer (some ⟨b 0, 0, none⟩), .int .i64 x] w fun e w' => e = .returned (.int .i64 (p : Int)) ∧ w = w') := Lib.hid K0
  have f1 := h.f1
  have K1 := Lib.hid (chain_Of (p : Int) h.c2)
  generalize PC.ofV 64 S.R2 (p : Int) = y at *
  have g0 : (0 : Int) ≤ (p : Int) := by omega
  clear h hf
  go_enter Try.func69, Try.ntmps69
  go_wp2_with fail
  refine K0.out.mono ?_
  rintro e w1 ⟨rfl, rfl⟩
  go_wp2_with fail
  refine K1.out.mono ?_
  rintro e w1 ⟨rfl, rfl⟩
  go_wp2_with fail
  go_ret
  exact ⟨rfl, rfl⟩
end Go.Proofs.Ytdhcmnbajkpjiaa
/-
  Queue: how many are ahead; the lists.
-/
namespace Go.Proofs.Ytdhcmnbajkpjiaa
open Go.RowKit
open Go.Maps
set_option linter.unusedVariables false
set_option linter.unusedSimpArgs false
attribute [local go_sem] drewN_alloc drewN_setCell

variable {B : Nat} {w w' : World} {b : Nat → Nat} {v : Value} {S : QSt} {k : Nat}
theorem ints_getQ {r : List Nat} {k : Nat} (hk : k < r.length) : (ints r).getD k 0 = ((r[k] : Nat) : Int) := by simp [ints, List.getD, hk]
theorem back_at {r : List Nat} (hr : S.R1 0 = r) (hn : r.Nodup) {m : Nat} (hm : m < r.length) : PC.backV 1 S.R1 (r[m] : Nat) = PC.lastD (r.take m) := by
  have e1 : PC.rowOf 1 S.R1 ((r[m] : Nat) : Int) = some 0 := PC.rowOf_first (by omega) (by omega) (by rw [Int.toNat_natCast, hr]; exact List.getElem_mem hm) (fun j hj => by omega)
  unfold PC.backV
  rw [e1]
  show PC.lastD ((S.R1 0).take ((S.R1 0).idxOf ((r[m] : Nat) : Int).toNat)) = _
  rw [hr, Int.toNat_natCast]
  have hp := List.pairwise_iff_getElem.1 hn
  rw [PC.place_of hm rfl (fun j hj hlt e => hp j m hj hm hlt e)]
theorem lastD_take {r : List Nat} {m : Nat} (hm : m < r.length) : PC.lastD (r.take (m + 1)) = ((r[m] : Nat) : Int) := by
  rw [List.take_succ_eq_append_getElem hm, PC.lastD_snoc]
def AheadRel (r : List Nat) (i : Nat) (n k : Value) : Prop := ∃ j : Nat, j ≤ i ∧ k = .int .i64 j ∧ n = .int .i64 (PC.lastD (r.take (i - j)))
theorem queue_Ahead_no (x : Int) (hx : BdI x) (hf : S.f x = none) (h : QAt B w b v S k) : Calls Try.prog 68 #[.pointer (some ⟨b 0, 0, none⟩), .int .i64 x] w fun e w' => e = .returned (.int .i64 (-1)) ∧ w = w' := by
  have K0 := queue_find x hx h
  rw [hf] at K0
  replace K0 := Lib.hid K0
  clear h hf
  go_enter Try.func68, Try.ntmps68
  go_wp2_with fail
  refine K0.out.mono ?_
  rintro e w1 ⟨rfl, rfl⟩
  go_wp2_with fail
  go_ret
  exact ⟨rfl, rfl⟩
set_option maxRecDepth 100000 in
set_option maxHeartbeats 2000000 in
theorem queue_Ahead (x : Int) (i : Nat) (r : List Nat) (hr : S.R1 0 = r) (hn : r.Nodup) (hi : i < r.length) (p : Nat) (hp : r[i] = p) (hl : r.length ≤ 256) (hx : BdI x) (hf : S.f x = some (p : Int)) (h : QAt B w b v S k) : Calls Try.prog 68 #[.pointer (some ⟨b 0, 0, none⟩), .int .i64 x] w fun e w' => e = .returned (.int .i64 (i : Int)) ∧ w = w' := by
  have K0 := queue_find x hx h
  rw [hf] at K0
  replace K0 : Hid (Calls Try.prog 126 #[.pointer (some ⟨b 0, 0, none⟩), .int .i64 x] w fun e w' => e = .returned (.int .i64 (p : Int)) ∧ w = w') := Lib.hid K0
  have f0 := h.f0
  have KB : Hid (∀ m, (hm : m < r.length) → Calls Try.prog 27 #[.pointer (some ⟨b 1, 0, none⟩), .int .i64 ((r[m] : Nat) : Int)] w fun e w' => e = .returned (.int .i64 (PC.lastD (r.take m))) ∧ w = w') := Lib.hid (fun m hm => by
    have := chain_Back ((r[m] : Nat) : Int) h.c1
    rwa [back_at hr hn hm] at this)
  have HI := Lib.hid hi
  have HL := Lib.hid hl
  have KB0 := KB.out i hi
  rw [hp] at KB0
  replace KB0 := Lib.hid KB0
  have g0 : (0 : Int) ≤ (p : Int) := by omega
  clear h hn hr hf hi hl hp
  go_enter Try.func68, Try.ntmps68
  go_wp2_with fail
  refine K0.out.mono ?_
  rintro e w1 ⟨rfl, rfl⟩
  go_wp2_with fail
  refine KB0.out.mono ?_
  rintro e w1 ⟨rfl, rfl⟩
  obtain ⟨y, hy⟩ : ∃ y, PC.lastD (r.take i) = y := ⟨_, rfl⟩
  rw [hy]
  have HY := Lib.hid hy
  clear hy
  go_wp2_with fail
  go_loop [5, 6] (fun n k => AheadRel r i n k) (fun n k => i - (intOf k).toNat)
  case atStart => exact ⟨0, Nat.zero_le _, rfl, by rw [Nat.sub_zero, HY.out]⟩
  case round =>
    obtain ⟨j, hj, rfl, rfl⟩ := hrel
    have hi := HI.out
    have hl := HL.out
    by_cases hlt : j < i
    · obtain ⟨m, hm⟩ : ∃ m, i - j = m + 1 := ⟨i - j - 1, by omega⟩
      have hml : m < r.length := by omega
      have e1 : PC.lastD (r.take (i - j)) = ((r[m] : Nat) : Int) := by rw [hm]; exact lastD_take hml
      rw [e1]
      have KB1 := KB.out m hml
      obtain ⟨q, hq⟩ : ∃ q : Nat, r[m] = q := ⟨_, rfl⟩
      rw [hq] at KB1 ⊢
      have e2 : PC.lastD (r.take m) = PC.lastD (r.take (i - (j + 1))) := by rw [show i - (j + 1) = m by omega]
      rw [e2] at KB1
      obtain ⟨z, hz⟩ : ∃ z, PC.lastD (r.take (i - (j + 1))) = z := ⟨_, rfl⟩
      rw [hz] at KB1
      have HZ := Lib.hid hz
      replace KB1 := Lib.hid KB1
      have g1 : (0 : Int) ≤ (q : Int) := by omega
      have g2 : (j : Int) + 1 ≤ 256 := by omega
      clear e1 e2 hm hq hz
      go_wp2_with fail
      refine KB1.out.mono ?_
      rintro e w1 ⟨rfl, rfl⟩
      go_wp2_with fail
      go_round
      case rel => exact ⟨j + 1, by omega, by go_num, by rw [HZ.out]⟩
      case measure => simp [intOf]; omega
    · obtain rfl : j = i := by omega
      have e1 : PC.lastD (r.take (j - j)) = -1 := by rw [Nat.sub_self]; rfl
      rw [e1]
      clear e1
      go_wp2_with fail
      go_ret
      exact ⟨rfl, rfl⟩
/-- The tickets of nodes. -/
def idsOf (S : QSt) (r : List Nat) : List Int := r.map (fun p => S.ids.getD p 0)
def fillI (S : QSt) (r : List Nat) (j : Nat) : Value := .int .i64 (S.ids.getD (r.getD j 0) 0)
def AllRel (w : World) (S : QSt) (r : List Nat) (i : Value) (wr : World) : Prop :=
  ∃ k : Nat, k ≤ r.length ∧ i = .int .i64 k ∧ RowAt wr w.heap.size 3 (filled r.length k (fillI S r) (.int .i64 0)) ∧ Below w.heap.size w wr
theorem all_gives {r : List Nat} (hl : r.length ≤ 256) (h : RowAt w' w.heap.size 3 (filled r.length r.length (fillI S r) (.int .i64 0))) (hb : Below w.heap.size w w') : GivesInts w (idsOf S r) (.returned (.slice (some ⟨w.heap.size, 0, none⟩) r.length r.length)) w' := by
  refine ⟨_, _, _, rfl, ⟨⟨by simp [idsOf], by omega, fun _ => ⟨w.heap.size, 0, rfl, h.lt, fun i hi => ?_⟩⟩, fun _ => ⟨w.heap.size, 0, rfl, Nat.le_refl _⟩⟩, hb⟩
  rw [Nat.zero_add, h.cell, filled_get _ _ hi, if_pos hi]
  simp [fillI, idsOf, List.getD, hi]
set_option maxRecDepth 100000 in
set_option maxHeartbeats 2000000 in
theorem queue_all {A : Option Addr} {n : Nat} (c : Nat) (r : List Nat) (hr : ∀ p ∈ r, p < 256) (hl : r.length ≤ 256) (hi : S.ids.length = 256) (h : QAt B w b v S k) (hA : IntsAt w A n (ints r)) :
    Calls Try.prog 131 #[.pointer (some ⟨b 0, 0, none⟩), .slice A n c] w (GivesInts w (idsOf S r)) := by
  have hn : n = r.length := by have := hA.1; rw [ints_len] at this; omega
  subst hn
  have hinfo : (Try.prog.info? 3).map (fun i => (i.zero, i.size, i.bytes)) = some (some (.int .i64 0), 1, 8) := by kernel_rfl
  have hmk := run_make_row' (P := Try.prog) 27 3 (.int .i64 0) 8 Try.underlying27 hinfo rfl .i64 .i64 r.length (by omega) (by omega)
  rw [filled_made _ _ (fillI S r)] at hmk
  have HQ := Lib.hid h
  have HA := Lib.hid hA
  have HR := Lib.hid hr
  have HL := Lib.hid hl
  have HI := Lib.hid hi
  have j0 : (r.length : Int) ≤ 256 := by omega
  have j1 : (0 : Int) ≤ (r.length : Int) := by omega
  obtain ⟨m, hm⟩ : ∃ m, r.length = m := ⟨_, rfl⟩
  have HM := Lib.hid hm
  rw [hm] at hmk j0 j1 ⊢
  clear hinfo h hA hr hl hi hm
  go_enter Try.func131, Try.ntmps131
  go_wp2_with fail
  clear hmk
  go_loopw [13] (fun i wr => AllRel w S r i wr) (fun i _ => r.length - (intOf i).toNat)
  case atStart => exact ⟨0, Nat.zero_le _, rfl, by have := RowAt.new w 3 (filled m 0 (fillI S r) (.int .i64 0)); rw [HM.out]; simpa using this, (by repeat (first | exact Below.refl _ _ | assumption | refine bel_drew ?_ | refine bel_drewN ?_ _ | refine bel_alloc ?_ _ | refine bel_set ?_ (by first | (dsimp only; omega) | (simp; done) | (simp; omega)) _ | refine bel_trans ?_ (by assumption)))⟩
  case round =>
    obtain ⟨k, hk, rfl, hrow, hb⟩ := hrel
    have hm := HM.out
    have hl := HL.out
    by_cases hlt : k < r.length
    · obtain ⟨bn, off, rfl, hbn, hc⟩ := HA.out.2.2 (by omega)
      have x0 := (hb.cell (p := ⟨bn, off + k, none⟩) hbn).trans (hc k hlt)
      rw [ints_getQ hlt] at x0
      have hp := HR.out _ (List.getElem_mem hlt)
      obtain ⟨p, hpe⟩ : ∃ p : Nat, r[k] = p := ⟨_, rfl⟩
      rw [hpe] at x0 hp
      have ltb : b 0 < w.heap.size := HQ.out.row.lt
      have y0 : wr.cell? ⟨b 0, 4 + p, none⟩ = some (.int .i64 (S.ids.getD p 0)) := (hb.cell (p := ⟨b 0, 4 + p, none⟩) ltb).trans (by rw [HQ.out.row.cell]; exact qcells_id (by have := HI.out; omega))
      have o0 : wr.cell? ⟨w.heap.size, k, none⟩ = some (.int .i64 0) := by rw [hrow.cell, filled_get _ _ hlt, if_neg (by omega)]
      have o1 := hrow.frozen k
      have HF : Hid (fillI S r k = .int .i64 (S.ids.getD p 0)) := Lib.hid (by unfold fillI; simp [List.getD, hlt, hpe])
      generalize S.ids.getD p 0 = y at *
      have g0 : (0 : Int) ≤ (k : Int) := by omega
      have g1 : (k : Int) < (m : Int) := by omega
      have g2 : (0 : Int) ≤ (p : Int) := by omega
      have g3 : (p : Int) < 256 := by omega
      have g4 : (k : Int) + 1 ≤ 256 := by omega
      have HB := Lib.hid hb
      have HRW := Lib.hid hrow
      clear hpe hc hb hrow hm
      go_wp2_with fail
      go_roundw
      case rel =>
        refine ⟨k + 1, by omega, by go_num, ?_, HB.out.setCell (Nat.le_refl _) _⟩
        have := HRW.out.set_ k (.int .i64 y)
        rw [← HF.out, filled_set] at this
        rw [← HF.out]
        exact this
      case measure => simp [intOf]; omega
    · obtain rfl : k = r.length := by omega
      have HB := Lib.hid hb
      have HRW := Lib.hid hrow
      clear hb hrow
      rw [hm]
      clear hm
      go_wp2_with fail
      go_ret
      rw [← HM.out]
      exact all_gives HL.out HRW.out HB.out
set_option maxRecDepth 100000 in
theorem queue_List (hr : ∀ p ∈ PC.rowV 1 S.R1 0, p < 256) (hl : (PC.rowV 1 S.R1 0).length ≤ 256) (hi : S.ids.length = 256) (h : QAt B w b v S k) : Calls Try.prog 62 #[.pointer (some ⟨b 0, 0, none⟩)] w (GivesInts w (idsOf S (PC.rowV 1 S.R1 0))) := by
  have K0 := Lib.hid (queue_is h)
  have f0 := h.f0
  have K1 := Lib.hid (chain_List 0 h.c1)
  have K2 : Hid (∀ (w1 : World) (A : Option Addr) (n c9 : Nat), Below w.heap.size w w1 → IntsAt w1 A n (ints (PC.rowV 1 S.R1 0)) → Calls Try.prog 131 #[.pointer (some ⟨b 0, 0, none⟩), .slice A n c9] w1 (GivesInts w1 (idsOf S (PC.rowV 1 S.R1 0)))) := Lib.hid (fun w1 A n c9 hb hA => queue_all c9 _ hr hl hi (h.below hb) hA)
  generalize PC.rowV 1 S.R1 0 = r at *
  clear h hi hr hl
  go_enter Try.func62, Try.ntmps62
  go_wp2_with fail
  refine K0.out.mono ?_
  rintro e w1 ⟨rfl, rfl⟩
  go_wp2_with fail
  refine K1.out.mono ?_
  rintro e w2 ⟨A, n, c2, rfl, hA, hb⟩
  have HB := Lib.hid hb
  have HA := Lib.hid hA.1
  clear hb hA
  go_wp2_with fail
  refine (K2.out w2 A n c2 HB.out HA.out).mono ?_
  rintro e w3 ⟨A3, n3, c3, rfl, hA3, hb3⟩
  have H3 := Lib.hid (hA3.mono HB.out.size)
  have HB3 := Lib.hid (bel_trans HB.out hb3)
  clear hA3 hb3
  go_wp2_with fail
  go_ret
  exact ⟨_, _, _, rfl, H3.out, HB3.out⟩
set_option maxRecDepth 100000 in
theorem queue_Of (c : Int) (hr : ∀ p ∈ PC.rowV 64 S.R2 c, p < 256) (hl : (PC.rowV 64 S.R2 c).length ≤ 256) (hi : S.ids.length = 256) (h : QAt B w b v S k) : Calls Try.prog 63 #[.pointer (some ⟨b 0, 0, none⟩), .int .i64 c] w (GivesInts w (idsOf S (PC.rowV 64 S.R2 c))) := by
  have K0 := Lib.hid (queue_is h)
  have f1 := h.f1
  have K1 := Lib.hid (chain_List c h.c2)
  have K2 : Hid (∀ (w1 : World) (A : Option Addr) (n c9 : Nat), Below w.heap.size w w1 → IntsAt w1 A n (ints (PC.rowV 64 S.R2 c)) → Calls Try.prog 131 #[.pointer (some ⟨b 0, 0, none⟩), .slice A n c9] w1 (GivesInts w1 (idsOf S (PC.rowV 64 S.R2 c)))) := Lib.hid (fun w1 A n c9 hb hA => queue_all c9 _ hr hl hi (h.below hb) hA)
  generalize PC.rowV 64 S.R2 c = r at *
  clear h hi hr hl
  go_enter Try.func63, Try.ntmps63
  go_wp2_with fail
  refine K0.out.mono ?_
  rintro e w1 ⟨rfl, rfl⟩
  go_wp2_with fail
  refine K1.out.mono ?_
  rintro e w2 ⟨A, n, c2, rfl, hA, hb⟩
  have HB := Lib.hid hb
  have HA := Lib.hid hA.1
  clear hb hA
  go_wp2_with fail
  refine (K2.out w2 A n c2 HB.out HA.out).mono ?_
  rintro e w3 ⟨A3, n3, c3, rfl, hA3, hb3⟩
  have H3 := Lib.hid (hA3.mono HB.out.size)
  have HB3 := Lib.hid (bel_trans HB.out hb3)
  clear hA3 hb3
  go_wp2_with fail
  go_ret
  exact ⟨_, _, _, rfl, H3.out, HB3.out⟩
end Go.Proofs.Ytdhcmnbajkpjiaa
