/-
  One hypothesis for a forest that a call made; the example of the chapter.
-/
import Derived.Test.YtdhcmnbajkpjiaaNodeI
namespace Go.Proofs.Ytdhcmnbajkpjiaa
open Go.RowKit
open Go.Maps
set_option linter.unusedVariables false
set_option linter.unusedSimpArgs false
attribute [local go_sem] drewN_alloc drewN_setCell

structure FSt where
  (g up : List Int) (O cl : List Nat) (fr : Nat) (R : Nat → List Nat)
def FSt.new (n : Nat) : FSt := ⟨List.replicate n 0, List.replicate n 0, [], [], 0, PC.none0⟩
def FSt.add (S : FSt) (n i : Nat) (q : Int) : FSt :=
  match pickP S.cl S.fr n with
  | none => S
  | some (p, cl', fr') => ⟨S.g, S.up.set p q, p :: S.O, cl', fr', PC.updR S.R i (S.R i ++ [p])⟩
def FSt.told (S : FSt) (n : Nat) : Value :=
  match pickP S.cl S.fr n with
  | none => .tuple #[.int .i64 0, .int .i64 0, .bool false]
  | some (p, _, _) => .tuple #[.int .i64 (p : Int), .int .i64 (S.g.getD p 0), .bool true]
def FSt.child (S : FSt) (n : Nat) (x : Int) : FSt := if x ∈ ints S.O then S.add n x.toNat x else S
def FSt.toldC (S : FSt) (n : Nat) (x : Int) : Value := if x ∈ ints S.O then S.told n else .tuple #[.int .i64 0, .int .i64 0, .bool false]
def FSt.row (S : FSt) (n p : Nat) : Nat := if S.up.getD p 0 = -1 then n else (S.up.getD p 0).toNat
def FSt.drop (S : FSt) (n : Nat) (x : Int) : FSt :=
  if dropOk S.O S.R x = true then ⟨S.g.set x.toNat (IntKind.i64.wrap (S.g.getD x.toNat 0 + 1)), S.up, S.O.erase x.toNat, S.cl ++ [x.toNat], S.fr, PC.updR S.R (S.row n x.toNat) (PC.cut (S.R (S.row n x.toNat)) x.toNat)⟩ else S
/-- A forest made since w0, of the blocks 'own'; all that was there at w0 is as it was. -/
structure ForestOver (w0 w : World) (own : Nat → Prop) (Fb n : Nat) (S : FSt) : Prop where
  ex : ∃ B Sb Gb Mb Pb C Nb Lb v, NodeAt B w Fb Sb Gb Mb Pb C Nb Lb n v S.g S.up S.O S.cl S.fr S.R ∧ (own Fb ∧ own Sb ∧ own Gb ∧ own Mb ∧ own Pb ∧ own C ∧ own Nb ∧ own Lb) ∧ ∀ k, v.ownBlock = some k → own k
  fi : FI n S.up S.O S.cl S.fr S.R
  fresh : ∀ k, own k → w0.heap.size ≤ k ∧ k < w.heap.size
  below : Below w0.heap.size w0 w
/-- What a call does that changes the forest. -/
def OverStep (w0 w : World) (own : Nat → Prop) (Fb n : Nat) (S : FSt) (w' : World) : Prop :=
  ∃ own', ForestOver w0 w' own' Fb n S ∧ Chg own w w' ∧ ∀ k, own' k → own k ∨ w.heap.size ≤ k
variable {w0 w w' : World} {own : Nat → Prop} {Fb n : Nat} {S : FSt}
theorem ForestOver.keep (h : ForestOver w0 w own Fb n S) (hb : Below w.heap.size w w') : ForestOver w0 w' own Fb n S := by
  obtain ⟨⟨B, Sb, Gb, Mb, Pb, C, Nb, Lb, v, h1, h2, h3⟩, h4, h5, h6⟩ := h
  exact ⟨⟨B, Sb, Gb, Mb, Pb, C, Nb, Lb, v, h1.below hb, h2, h3⟩, h4, fun k hk => ⟨(h5 k hk).1, Nat.lt_of_lt_of_le (h5 k hk).2 hb.size⟩, bel_trans h6 hb⟩
theorem over_same (h : ForestOver w0 w own Fb n S) (hb : Below w.heap.size w w') : OverStep w0 w own Fb n S w' :=
  ⟨own, h.keep hb, Chg.of_below hb, fun k hk => .inl hk⟩
theorem overf_New (n : Nat) (w : World) (hn : n ≤ 4096) : Calls Try.prog 36 #[.int .i64 (n : Int)] w fun e w' => ∃ Fb own, e = .returned (.pointer (some ⟨Fb, 0, none⟩)) ∧ ForestOver w w' own Fb n (FSt.new n) := by
  refine (node_New n w hn).mono ?_
  rintro e w' ⟨Fb, Sb, Gb, Mb, Pb, C, Nb, Lb, rfl, h1, hb, h2, h3, h4, h5, h6, h7, h8, h9⟩
  have hl := h1.lt
  have sl := h1.sl
  refine ⟨Fb, fun k => w.heap.size ≤ k ∧ k < w'.heap.size, rfl, ⟨_, Sb, Gb, Mb, Pb, C, Nb, Lb, _, h1, ⟨⟨h2, hl.1⟩, ⟨h3, sl.lt1⟩, ⟨h4, sl.lt2⟩, ⟨h5, sl.lt3⟩, ⟨h6, hl.2.1⟩, ⟨h7, hl.2.2.1⟩, ⟨h8, hl.2.2.2.1⟩, ⟨h9, hl.2.2.2.2⟩⟩, fun k hk => ?_⟩, FI.none n hn, fun k hk => hk, hb⟩
  simp [Value.ownBlock] at hk
theorem over_nadd {i : Nat} {q : Int} {p : Nat} {cl' : List Nat} {fr' : Nat} {Sb Gb Mb Pb C Nb Lb B : Nat} {v : Value} {e : Ending} (h : ForestOver w0 w own Fb n S) (h1 : NodeAt B w Fb Sb Gb Mb Pb C Nb Lb n v S.g S.up S.O S.cl S.fr S.R)
    (ho : own Fb ∧ own Sb ∧ own Gb ∧ own Mb ∧ own Pb ∧ own C ∧ own Nb ∧ own Lb) (hv : ∀ k, v.ownBlock = some k → own k) (hp : pickP S.cl S.fr n = some (p, cl', fr')) (hil : i < n + 1) (hq : (i = n ∧ q = -1) ∨ (i < n ∧ i ∈ S.O ∧ q = (i : Int))) (ha : NAdd B Fb Sb Gb Mb Pb C Nb Lb n v S.g S.up S.O S.R i q p cl' fr' w e w') :
    e = .returned (S.told n) ∧ OverStep w0 w own Fb n (S.add n i q) w' := by
  obtain ⟨rfl, hc, v', h2, hv'⟩ := ha
  have e1 : S.told n = .tuple #[.int .i64 (p : Int), .int .i64 (S.g.getD p 0), .bool true] := by unfold FSt.told; rw [hp]
  have e2 : S.add n i q = ⟨S.g, S.up.set p q, p :: S.O, cl', fr', PC.updR S.R i (S.R i ++ [p])⟩ := by unfold FSt.add; rw [hp]
  have hc' : Chg own w w' := hc.mono (fun k _ hk => by
    rcases hk with rfl | rfl | rfl | rfl | rfl
    · exact ho.2.1
    · exact ho.2.2.2.1
    · exact ho.2.2.2.2.1
    · exact ho.2.2.2.2.2.2.1
    · exact ho.2.2.2.2.2.2.2)
  rw [e1, e2]
  refine ⟨rfl, own, ⟨⟨B, Sb, Gb, Mb, Pb, C, Nb, Lb, v', h2, ho, fun k hk => hv k (hv' ▸ hk)⟩, h.fi.add hp h1.ulen hil hq, fun k hk => ⟨(h.fresh k hk).1, Nat.lt_of_lt_of_le (h.fresh k hk).2 hc.size⟩, h.below.trans (hc'.below h.below.size (fun k hk => (h.fresh k hk).1))⟩, hc', fun k hk => .inl hk⟩
theorem overf_Root (h : ForestOver w0 w own Fb n S) : Calls Try.prog 41 #[.pointer (some ⟨Fb, 0, none⟩)] w fun e w' => e = .returned (S.told n) ∧ OverStep w0 w own Fb n (S.add n n (-1)) w' := by
  obtain ⟨B, Sb, Gb, Mb, Pb, C, Nb, Lb, v, h1, ho, hv⟩ := h.ex
  rcases hp : pickP S.cl S.fr n with _ | ⟨p, cl', fr'⟩
  · refine (node_Root_no h1 hp).mono ?_
    rintro e w' ⟨rfl, hb⟩
    have e1 : S.told n = .tuple #[.int .i64 0, .int .i64 0, .bool false] := by unfold FSt.told; rw [hp]
    have e2 : S.add n n (-1) = S := by unfold FSt.add; rw [hp]
    rw [e1, e2]
    exact ⟨rfl, over_same h hb⟩
  · exact (node_Root h1 h.fi hp).mono fun e w' ha => over_nadd h h1 ho hv hp (by omega) (.inl ⟨rfl, rfl⟩) ha
theorem overf_Child (x : Int) (h : ForestOver w0 w own Fb n S) : Calls Try.prog 40 #[.pointer (some ⟨Fb, 0, none⟩), .int .i64 x] w fun e w' => e = .returned (S.toldC n x) ∧ OverStep w0 w own Fb n (S.child n x) w' := by
  obtain ⟨B, Sb, Gb, Mb, Pb, C, Nb, Lb, v, h1, ho, hv⟩ := h.ex
  by_cases hx : x ∈ ints S.O
  · have e1 : S.toldC n x = S.told n := by unfold FSt.toldC; rw [if_pos hx]
    have e2 : S.child n x = S.add n x.toNat x := by unfold FSt.child; rw [if_pos hx]
    rw [e1, e2]
    rcases hp : pickP S.cl S.fr n with _ | ⟨p, cl', fr'⟩
    · refine (node_Child_no x h1 h.fi (.inr hp)).mono ?_
      rintro e w' ⟨rfl, hb⟩
      have e1 : S.told n = .tuple #[.int .i64 0, .int .i64 0, .bool false] := by unfold FSt.told; rw [hp]
      have e2 : S.add n x.toNat x = S := by unfold FSt.add; rw [hp]
      rw [e1, e2]
      exact ⟨rfl, over_same h hb⟩
    · obtain ⟨i, hi, rfl⟩ : ∃ p : Nat, p ∈ S.O ∧ x = p := by
        unfold ints at hx
        obtain ⟨p, hp, e⟩ := List.mem_map.1 hx
        exact ⟨p, hp, e.symm⟩
      have hl := h.fi.lt hi
      have e0 : ((i : Int)).toNat = i := by omega
      rw [e0]
      exact (node_Child i h1 h.fi hi hp).mono fun e w' ha => over_nadd h h1 ho hv hp (by omega) (.inr ⟨hl, hi, rfl⟩) ha
  · refine (node_Child_no x h1 h.fi (.inl hx)).mono ?_
    rintro e w' ⟨rfl, hb⟩
    have e1 : S.toldC n x = .tuple #[.int .i64 0, .int .i64 0, .bool false] := by unfold FSt.toldC; rw [if_neg hx]
    have e2 : S.child n x = S := by unfold FSt.child; rw [if_neg hx]
    rw [e1, e2]
    exact ⟨rfl, over_same h hb⟩
theorem overf_Drop (x : Int) (h : ForestOver w0 w own Fb n S) : Calls Try.prog 39 #[.pointer (some ⟨Fb, 0, none⟩), .int .i64 x] w fun e w' => e = .returned (.bool (dropOk S.O S.R x)) ∧ OverStep w0 w own Fb n (S.drop n x) w' := by
  obtain ⟨B, Sb, Gb, Mb, Pb, C, Nb, Lb, v, h1, ho, hv⟩ := h.ex
  by_cases hx : dropOk S.O S.R x = true
  · have e2 : S.drop n x = ⟨S.g.set x.toNat (IntKind.i64.wrap (S.g.getD x.toNat 0 + 1)), S.up, S.O.erase x.toNat, S.cl ++ [x.toNat], S.fr, PC.updR S.R (S.row n x.toNat) (PC.cut (S.R (S.row n x.toNat)) x.toNat)⟩ := by unfold FSt.drop; rw [if_pos hx]
    rw [e2, hx]
    obtain ⟨p, hpO, rfl⟩ : ∃ p : Nat, p ∈ S.O ∧ x = p := by
      unfold dropOk at hx
      simp only [Bool.and_eq_true, decide_eq_true_eq] at hx
      have hm := hx.1
      unfold ints at hm
      obtain ⟨p, hp, e⟩ := List.mem_map.1 hm
      exact ⟨p, hp, e.symm⟩
    have e0 : ((p : Int)).toNat = p := by omega
    rw [e0]
    refine (node_Drop p h1 h.fi hx).mono ?_
    rintro e w' ⟨rfl, hc, v', j, hj, hpj, h2, h3, hv'⟩
    have ej : j = S.row n p := by
      unfold FSt.row
      rcases h.fi.pa p j hj hpj with ⟨a, b⟩ | ⟨a, b, c⟩
      · rw [if_pos b, a]
      · rw [c, if_neg (by omega)]; omega
    subst ej
    have hc' : Chg own w w' := hc.mono (fun k _ hk => by
      rcases hk with rfl | rfl | rfl | rfl | rfl | rfl | hk
      · exact ho.2.1
      · exact ho.2.2.1
      · exact ho.2.2.2.1
      · exact ho.2.2.2.2.1
      · exact ho.2.2.2.2.2.2.1
      · exact ho.2.2.2.2.2.2.2
      · exact hv k hk)
    have hvl : ∀ k, v'.ownBlock = some k → k < w'.heap.size := fun k hk => (World.ownsRow.lt h2.sl.own k hk).2
    refine ⟨rfl, fun k => own k ∨ (w.heap.size ≤ k ∧ k < w'.heap.size), ⟨⟨B, Sb, Gb, Mb, Pb, C, Nb, Lb, v', h2, ⟨.inl ho.1, .inl ho.2.1, .inl ho.2.2.1, .inl ho.2.2.2.1, .inl ho.2.2.2.2.1, .inl ho.2.2.2.2.2.1, .inl ho.2.2.2.2.2.2.1, .inl ho.2.2.2.2.2.2.2⟩, fun k hk => ?_⟩, h3, fun k hk => ?_, h.below.trans (hc'.below h.below.size (fun k hk => (h.fresh k hk).1))⟩, hc', fun k hk => hk.imp id And.left⟩
    · rcases hv' with e | ⟨k', e, h5⟩
      · exact .inl (hv k (e ▸ hk))
      · rw [e] at hk
        cases hk
        exact .inr ⟨h5, hvl k e⟩
    · rcases hk with hk | hk
      · exact ⟨(h.fresh k hk).1, Nat.lt_of_lt_of_le (h.fresh k hk).2 hc.size⟩
      · exact ⟨Nat.le_trans h.below.size hk.1, hk.2⟩
  · have e2 : S.drop n x = S := by unfold FSt.drop; rw [if_neg hx]
    have hx' : dropOk S.O S.R x = false := by simpa using hx
    rw [e2, hx']
    refine (node_Drop_no x h1 h.fi hx').mono ?_
    rintro e w' ⟨rfl, rfl⟩
    exact ⟨rfl, over_same h (Below.refl _ _)⟩
theorem overf_Is (x : Int) (h : ForestOver w0 w own Fb n S) : Calls Try.prog 48 #[.pointer (some ⟨Fb, 0, none⟩), .int .i64 x] w fun e w' => e = .returned (.bool (decide (x ∈ ints S.O))) ∧ w = w' := by
  obtain ⟨B, Sb, Gb, Mb, Pb, C, Nb, Lb, v, h1, ho, hv⟩ := h.ex
  exact node_Is x h1 h.fi
theorem overf_Parent (x : Int) (h : ForestOver w0 w own Fb n S) : Calls Try.prog 49 #[.pointer (some ⟨Fb, 0, none⟩), .int .i64 x] w fun e w' => e = .returned (.int .i64 (parV S.O S.up x)) ∧ w = w' := by
  obtain ⟨B, Sb, Gb, Mb, Pb, C, Nb, Lb, v, h1, ho, hv⟩ := h.ex
  exact node_Parent x h1 h.fi
theorem overf_Children (x : Int) (h : ForestOver w0 w own Fb n S) : Calls Try.prog 51 #[.pointer (some ⟨Fb, 0, none⟩), .int .i64 x] w (GivesInts w (ints (kidV S.O S.R x))) := by
  obtain ⟨B, Sb, Gb, Mb, Pb, C, Nb, Lb, v, h1, ho, hv⟩ := h.ex
  exact node_Children x h1 h.fi
theorem overf_Roots (h : ForestOver w0 w own Fb n S) : Calls Try.prog 46 #[.pointer (some ⟨Fb, 0, none⟩)] w (GivesInts w (ints (S.R n))) := by
  obtain ⟨B, Sb, Gb, Mb, Pb, C, Nb, Lb, v, h1, ho, hv⟩ := h.ex
  exact node_Roots h1
theorem overf_Len (h : ForestOver w0 w own Fb n S) : Calls Try.prog 44 #[.pointer (some ⟨Fb, 0, none⟩)] w fun e w' => e = .returned (.int .i64 (S.O.length : Int)) ∧ w = w' := by
  obtain ⟨B, Sb, Gb, Mb, Pb, C, Nb, Lb, v, h1, ho, hv⟩ := h.ex
  exact node_Len h1
end Go.Proofs.Ytdhcmnbajkpjiaa
