/- Part 11 of the proof of RegionRoom: lemmas, each with its conditions ahead of it. -/
import Derived.Test.YtdhcmnbajkpjiaaPartRegionRoom10
import Derived.Test.YtdhcmnbajkpjiaaPartRegionRoom9
import Derived.Test.YtdhcmnbajkpjiaaPartRegionRoom1
import Derived.Test.YtdhcmnbajkpjiaaPartRegionRoom3
/-
  Layer 40 (region): Free, Len.
-/
namespace Go.Proofs.Ytdhcmnbajkpjiaa
open Go.RowKit
set_option linter.unusedVariables false
set_option linter.unusedSimpArgs false
attribute [local go_sem] drewN_alloc drewN_setCell

variable {w0 w w' : World} {tb : Nat} {O : Nat → Prop} {N : List Nat} {S : FSt} {k : Nat} {st : Int → Option (Int × List Int × Int)}
theorem TreesStep.trans {N1 N2 : List Nat} {S1 S2 : FSt} {k1 k2 : Nat} {st1 st2 : Int → Option (Int × List Int × Int)} {w1 w2 : World} (h1 : TreesStep w0 w tb O N1 S1 k1 st1 w1) (h2 : ∀ O1, TreesOver w0 w1 tb O1 N1 S1 k1 st1 → TreesStep w0 w1 tb O1 N2 S2 k2 st2 w2) : TreesStep w0 w tb O N2 S2 k2 st2 w2 := by
  obtain ⟨O1, a1, a2, a3⟩ := h1
  obtain ⟨O2, b1, b2, b3⟩ := h2 O1 a1
  have hs := a2.size
  refine ⟨O2, b1, ⟨b2.os.trans a2.os, b2.tape.trans a2.tape, b2.output.trans a2.output, Nat.le_trans hs b2.size, fun j hj hn => ?_⟩, fun j hj => ?_⟩
  · have h5 : ¬ O1 j := fun h6 => (a3 j h6).elim hn (fun h7 => by omega)
    exact (b2.block j (by omega) h5).trans (a2.block j hj hn)
  · rcases b3 j hj with h5 | h5
    · exact a3 j h5
    · exact .inr (by omega)
theorem TreesStep.before {w1 w2 : World} (hb : Below w.heap.size w w1) (h : TreesStep w0 w1 tb O N S k st w2) : TreesStep w0 w tb O N S k st w2 := by
  obtain ⟨O', a1, a2, a3⟩ := h
  exact ⟨O', a1, (Chg.of_below hb).trans a2, fun j hj => (a3 j hj).imp id (fun h5 => Nat.le_trans hb.size h5)⟩
/-- A region is taken out of the map. -/
def stDel (st : Int → Option (Int × List Int × Int)) (l : List Nat) : Int → Option (Int × List Int × Int) := fun z => if z ∈ ints l then none else st z
theorem stDel_nil (st : Int → Option (Int × List Int × Int)) : stDel st [] = st := by funext z; simp [stDel, ints]
theorem stDel_app (st : Int → Option (Int × List Int × Int)) (l : List Nat) (y : Nat) : stDel st (l ++ [y]) = fun z => if z = (y : Int) then none else stDel st l z := by
  funext z
  unfold stDel ints
  by_cases h : z = (y : Int)
  · subst h; simp
  · simp [h]
theorem TreesAt.del {mb Fb y : Nat} {own : Nat → Prop} {f f' : Int → Option Value} (h : TreesAt w0 w tb mb Fb own S k f st) (hm : RMapAt w' mb k f') (hc : Chg (fun j => j = mb) w w')
    (hf : f' = fun z => if z = (y : Int) then none else f z) :
    TreesAt w0 w' tb mb Fb own S k f' (fun z => if z = (y : Int) then none else st z) := by
  refine ⟨h.row.of_block (hc.block tb h.row.lt (fun e => h.far.1 e)), hm, h.forest.of_own (fun j hj => hc.block j (h.forest.fresh j hj).2 (fun e => h.far.2.2.1 (by rw [← e]; exact hj))) hc.size (h.forest.below.trans (hc.below h.forest.below.size (fun j e => by rw [e]; exact h.far.2.2.2.2))), h.far, fun z => ?_⟩
  subst hf
  by_cases hx : z = (y : Int)
  · exact .inl ⟨by simp [hx], by simp [hx]⟩
  · rcases h.vals z with ⟨h1, h2⟩ | ⟨c', v', l', cur', e1, e2, e3, e4⟩
    · exact .inl ⟨by simp [hx, h1], by simp [hx, h2]⟩
    · exact .inr ⟨c', v', l', cur', by simp [hx, e1], by simp [hx, e2], e3.of_chg hc (fun j e e5 => (e4 j e).2.1 e5), e4⟩
/-- One round of Free. -/
theorem free_round (y : Nat) (h : TreesOver w0 w tb O N S k st) (hy : y < 4096) (hok : dropOk S.O S.R (y : Int) = true) :
    ∃ mb Fb w3, w.cell? ⟨tb, 1, none⟩ = some (.map (some mb)) ∧ (Builtin.delete_ #[118, 3] 0 #[.map (some mb), .int .i64 (y : Int)]).run Try.prog w = .ok (.tuple #[]) w3 ∧ w3.cell? ⟨tb, 0, none⟩ = some (.pointer (some ⟨Fb, 0, none⟩)) ∧
      Calls Try.prog 39 #[.pointer (some ⟨Fb, 0, none⟩), .int .i64 (y : Int)] w3 fun e w' => e = .returned (.bool true) ∧ TreesStep w0 w tb O (PC.cut N y) (S.drop 4096 (y : Int)) k (fun z => if z = (y : Int) then none else st z) w' := by
  obtain ⟨mb, Fb, own, f, h0, h1, h2, h3, h4⟩ := h.ex
  obtain ⟨w3, hrun, hm, hg⟩ := h0.map.del (y : Int) ⟨by omega, by omega⟩ 0
  have hc : Chg (fun j => j = mb) w w3 := Chg.of_grown hg (fun j e => (Option.some.inj e).symm)
  have t3 := h0.del (y := y) hm hc rfl
  have KD := overf_Drop (y : Int) t3.forest
  rw [hok] at KD
  refine ⟨mb, Fb, w3, (h0.row.cell 1).trans rfl, hrun, (t3.row.cell 0).trans rfl, KD.mono ?_⟩
  rintro e w4 ⟨rfl, s4⟩
  refine ⟨rfl, ?_⟩
  obtain ⟨own', t4, c4, n4⟩ := t3.forest_step s4
  refine h.step (mb := mb) (Fb := Fb) (own := own') ((hc.mono (fun j _ hj => by rw [hj]; exact h2)).trans (c4.mono (fun j _ hj => h3 j hj))) t4 h1 (.inl h2) (fun j hj => (n4 j hj).imp (h3 j) (fun h9 => Nat.le_trans hc.size h9)) (fun x c' v cur e j hj => ?_) (h.ord.drop h0.forest.fi h.rel hok) (h.rel.drop h0.forest.fi hok)
  split at e
  · cases e
  · exact .inl (h4 x c' v cur e j hj)
def FreeRel (w0 w2 : World) (tb : Nat) (O : Nat → Prop) (N : List Nat) (S : FSt) (k : Nat) (st : Int → Option (Int × List Int × Int)) (P : List Nat) (i : Value) (wr : World) : Prop :=
  ∃ j : Nat, i = .int .i64 (j : Int) ∧ j ≤ P.length ∧ TreesStep w0 w2 tb O (cutsN N (P.take j)) (dropsS S (P.take j)) k (stDel st (P.take j)) wr
def FreedReg (w0 : World) (tb : Nat) (O : Nat → Prop) (N : List Nat) (S : FSt) (k : Nat) (st : Int → Option (Int × List Int × Int)) (q : Nat) (w : World) (e : Ending) (w' : World) : Prop :=
  ∃ v, e = .returned (.tuple #[v, .int .i64 0]) ∧ OwnI w.heap.size w' v (underV N S st q) ∧ TreesStep w0 w tb O (cutsN N (postW N S.up (q : Int))) (dropsS S (postW N S.up (q : Int))) k (stDel st (postW N S.up (q : Int))) w'
set_option maxRecDepth 100000 in
set_option maxHeartbeats 4000000 in
theorem region_Free_no (r e0 : Int) (hl : -9223372036854775808 ≤ r) (hm : r ≤ 9223372036854775807) (he : e0 ≠ 0) (h : TreesOver w0 w tb O N S k st) (hr : findV S r = (0, e0)) :
    Calls Try.prog 97 #[.pointer (some ⟨tb, 0, none⟩), .int .i64 r] w fun e w' => e = .returned (.tuple #[.slice none 0 0, .int .i64 e0]) ∧ Below w.heap.size w w' := by
  have K1 := Lib.hid (region_Under_no r e0 hl hm he h hr)
  have g1 : (e0 != 0) = true := by simpa using he
  clear h hr
  go_enter Try.func97, Try.ntmps97
  go_wp2_with fail
  refine K1.out.mono ?_
  rintro e w1 ⟨rfl, b1⟩
  go_wp2_with fail
  exact bodyPost_ret (v := .tuple #[.slice none 0 0, .int .i64 e0]) (by simp [results, Try.results97, go_sem]) rfl ⟨rfl, b1⟩
set_option maxRecDepth 100000 in
set_option maxHeartbeats 16000000 in
theorem region_Free (r : Int) (q : Nat) (hl : -9223372036854775808 ≤ r) (hm : r ≤ 9223372036854775807) (h : TreesOver w0 w tb O N S k st) (hr : findV S r = ((q : Int), 0)) (hall : ∀ x ∈ N, ∃ c l cur, st (x : Int) = some (c, l, cur)) (hlen : (underV N S st q).length ≤ 100000) :
    Calls Try.prog 97 #[.pointer (some ⟨tb, 0, none⟩), .int .i64 r] w (FreedReg w0 tb O N S k st q w) := by
  have K1 := Lib.hid (region_Under r q hl hm h hr hall hlen)
  have KF : Hid (∀ W, Below w.heap.size w W → Calls Try.prog 145 #[.pointer (some ⟨tb, 0, none⟩), .int .i64 r] W fun e w' => e = .returned (.tuple #[.int .i64 (q : Int), .int .i64 0]) ∧ Below W.heap.size W w') := Lib.hid (fun W hW => by
    obtain ⟨mb, Fb, own, f, h0, _⟩ := (h.keep hW).ex
    have := region_find r hl hm h0
    rw [hr] at this
    exact this)
  have KP : Hid (∀ W, Below w.heap.size w W → ∃ Fb, W.cell? ⟨tb, 0, none⟩ = some (.pointer (some ⟨Fb, 0, none⟩)) ∧ Calls Try.prog 74 #[.pointer (some ⟨Fb, 0, none⟩), .int .i64 (q : Int)] W (GivesOwnI W (ints (postW N S.up (q : Int))))) := Lib.hid (fun W hW => by
    obtain ⟨mb, Fb, own, f, h0, _⟩ := (h.keep hW).ex
    exact ⟨Fb, (h0.row.cell 0).trans rfl, walk_PostO (q : Int) h.ord h.rel h0.forest⟩)
  unfold FreedReg
  obtain ⟨U, hU⟩ : ∃ U, underV N S st q = U := ⟨_, rfl⟩
  rw [hU] at K1 ⊢
  have HORD := Lib.hid h.ord
  have hN4 : ∀ x ∈ N, x < 4096 := fun x hx => by
    obtain ⟨mb, Fb, own, f, h0, _⟩ := h.ex
    exact h0.forest.fi.lt ((h.rel.mem x).1 hx)
  have HP4 : Hid ((postW N S.up (q : Int)).length ≤ 4096) := Lib.hid (nodup_lt 4096 _ (postW_nodup h.ord _) (fun x hx => hN4 x (preW_in h.ord _ ((postW_mem h.ord _ x).1 hx))))
  have HPy : Hid (∀ y ∈ postW N S.up (q : Int), y < 4096) := Lib.hid (fun x hx => hN4 x (preW_in h.ord _ ((postW_mem h.ord _ x).1 hx)))
  have HOK : Hid (∀ j y : Nat, (postW N S.up (q : Int))[j]? = some y → NRel 4096 (dropsS S ((postW N S.up (q : Int)).take j)) (cutsN N ((postW N S.up (q : Int)).take j)) → dropOk (dropsS S ((postW N S.up (q : Int)).take j)).O (dropsS S ((postW N S.up (q : Int)).take j)).R (y : Int) = true) :=
    Lib.hid (fun j y hj hn => drop_ok h.ord (q : Int) hj hn (hN4 y (preW_in h.ord _ ((postW_mem h.ord _ y).1 (List.mem_of_getElem? hj)))))
  have H := Lib.hid h
  clear h hr hall hlen hU hN4
  obtain ⟨P, hP⟩ : ∃ P, postW N S.up (q : Int) = P := ⟨_, rfl⟩
  rw [hP] at KP HP4 HPy HOK ⊢
  clear hP
  go_enter Try.func97, Try.ntmps97
  go_wp2_with fail
  refine K1.out.mono ?_
  rintro e wa ⟨v1, rfl, o1, b1⟩
  have O1 := Lib.hid o1
  have B1 := Lib.hid b1
  clear o1 b1
  go_wp2_with fail
  refine (KF.out wa B1.out).mono ?_
  rintro e wb ⟨rfl, b2⟩
  obtain ⟨Fb, d0, KPb⟩ := KP.out wb (bel_trans B1.out b2)
  have KPB := Lib.hid KPb
  have B2 := Lib.hid b2
  clear b2 KPb
  go_wp2_with fail
  refine KPB.out.mono ?_
  rintro e w2 ⟨v2, rfl, o2, b3⟩
  obtain ⟨PA, pc, rfl, pi, _⟩ := o2.ints
  have hpb : ∀ g off, PA = some ⟨g, off, none⟩ → wb.heap.size ≤ g ∧ g < w2.heap.size := fun g off e => by
    subst e
    exact o2.ltB g rfl
  rw [ints_len] at pi ⊢
  have bw2 : Below w.heap.size w w2 := bel_trans (bel_trans B1.out B2.out) b3
  have sz2 : w.heap.size ≤ wb.heap.size := (bel_trans B1.out B2.out).size
  have O12 := Lib.hid ((O1.out.keep B2.out).keep b3)
  have HB2 := Lib.hid bw2
  have PI := Lib.hid pi
  have HPB := Lib.hid hpb
  clear o2 b3 d0 pi hpb bw2
  obtain ⟨m, hm⟩ : ∃ m, P.length = m := ⟨_, rfl⟩
  rw [hm]
  have HM := Lib.hid hm
  clear hm
  go_wp2_with fail
  go_loopw [34] (fun i wr => FreeRel w0 w2 tb O N S k st P i wr) (fun i _ => m - (intOf i).toNat)
  case atStart => exact ⟨0, rfl, Nat.zero_le _, by rw [List.take_zero, stDel_nil]; exact (H.out.keep HB2.out).same (Below.refl _ _)⟩
  case round =>
    obtain ⟨j, rfl, hj, hs⟩ := hrel
    rw [HM.out] at hj
    by_cases hlt : (j : Int) < m
    · have hjm : j < m := by omega
      obtain ⟨y, ey⟩ : ∃ y, P[j]? = some y := ⟨_, List.getElem?_eq_getElem (by rw [HM.out]; exact hjm)⟩
      have hy4 := HPy.out y (List.mem_of_getElem? ey)
      obtain ⟨g, off, e, hg, hx⟩ := PI.out.2.2 (by rw [HM.out]; omega)
      have x0 := hx j (by rw [HM.out]; exact hjm)
      rw [show (ints P).getD j 0 = (y : Int) by simp [ints, List.getD, ey]] at x0
      have hgb := HPB.out g off e
      subst e
      obtain ⟨Or, t1, c1, n1⟩ := hs
      have y0 : wr.cell? ⟨g, off + j, none⟩ = some (.int .i64 (y : Int)) := (World.cell?_of_block (c1.block g hg (fun hO => by have := (H.out.fresh g hO).2; omega))).trans x0
      obtain ⟨mb, Fb', w3, m1, hrun, m3, KD⟩ := free_round y t1 hy4 (HOK.out j y ey t1.rel)
      have HS : Hid (∀ w4, TreesStep w0 wr tb Or (PC.cut (cutsN N (P.take j)) y) ((dropsS S (P.take j)).drop 4096 (y : Int)) k (fun z => if z = (y : Int) then none else stDel st (P.take j) z) w4 → TreesStep w0 w2 tb O (cutsN N (P.take (j + 1))) (dropsS S (P.take (j + 1))) k (stDel st (P.take (j + 1))) w4) := Lib.hid (fun w4 h4 => by
        have e1 : P.take (j + 1) = P.take j ++ [y] := by rw [List.take_add_one, ey]; rfl
        rw [e1, cutsN_app, dropsS_app, stDel_app, cutsN_one, dropsS_one]
        obtain ⟨O', a1, a2, a3⟩ := h4
        have hs := c1.size
        refine ⟨O', a1, ⟨a2.os.trans c1.os, a2.tape.trans c1.tape, a2.output.trans c1.output, Nat.le_trans hs a2.size, fun i hi hn => ?_⟩, fun i hi => ?_⟩
        · have h5 : ¬ Or i := fun h6 => (n1 i h6).elim hn (fun h7 => by omega)
          exact (a2.block i (by omega) h5).trans (c1.block i hi hn)
        · rcases a3 i hi with h5 | h5
          · exact n1 i h5
          · exact .inr (by omega))
      have i0 : (0 : Int) ≤ (j : Int) := by omega
      have jb : j < 4096 := by have := HP4.out; have := HM.out; omega
      replace KD := Lib.hid KD
      clear t1 c1 n1 hx x0 ey hgb
      go_wp2_with fail
      refine KD.out.mono ?_
      rintro e w4 ⟨rfl, s4⟩
      have s5 := Lib.hid (HS.out w4 s4)
      clear s4 HS hrun m1 m3 y0
      go_wp2_with fail
      go_roundw
      case rel => exact ⟨j + 1, by go_num, by rw [HM.out]; omega, s5.out⟩
      case measure => simp [intOf]; omega
    · have hjm : j = m := by omega
      subst hjm
      rw [List.take_of_length_le (by rw [HM.out]; exact Nat.le_refl _)] at hs
      have HS := Lib.hid hs
      clear hs
      go_wp2_with fail
      refine bodyPost_ret (v := .tuple #[v1, .int .i64 0]) (by simp [results, Try.results97, go_sem]) rfl ⟨v1, rfl, ?_, TreesStep.before HB2.out HS.out⟩
      obtain ⟨Or, t1, c1, n1⟩ := HS.out
      exact O12.out.of_chg c1 (fun i e hO => by
        have h1 := (H.out.fresh i hO).2
        have h2 := (O12.out.ltB i e).1
        omega)
set_option maxRecDepth 100000 in
set_option maxHeartbeats 4000000 in
theorem region_Len (h : TreesOver w0 w tb O N S k st) :
    Calls Try.prog 98 #[.pointer (some ⟨tb, 0, none⟩)] w fun e w' => e = .returned (.int .i64 (N.length : Nat)) ∧ Below w.heap.size w w' := by
  obtain ⟨mb, Fb, own, f, h0, h1, h2, h3, h4⟩ := h.ex
  have K1 := Lib.hid (region_is h0)
  have K2 := overf_Len h0.forest
  have el : S.O.length = N.length := by
    have p1 : S.O.Perm N := (List.perm_ext_iff_of_nodup h0.forest.fi.s.o1 h.rel.nd).2 (fun x => (h.rel.mem x).symm)
    exact p1.length_eq
  rw [el] at K2
  replace K2 := Lib.hid K2
  have d0 : w.cell? ⟨tb, 0, none⟩ = some (.pointer (some ⟨Fb, 0, none⟩)) := (h0.row.cell 0).trans rfl
  generalize N.length = n at *
  clear h h0 h1 h2 h3 h4 el
  go_enter Try.func98, Try.ntmps98
  go_wp2_with fail
  refine K1.out.mono ?_
  rintro e w1 ⟨rfl, rfl⟩
  go_wp2_with fail
  refine K2.out.mono ?_
  rintro e w1 ⟨rfl, rfl⟩
  go_wp2_with fail
  exact bodyPost_ret (v := .int .i64 (n : Int)) (by simp [results, Try.results98, go_sem]) rfl ⟨rfl, (by repeat (first | exact Below.refl _ _ | assumption | refine bel_drew ?_ | refine bel_drewN ?_ _ | refine bel_alloc ?_ _ | refine bel_set ?_ (by first | (dsimp only; omega) | (simp; done) | (simp; omega)) _ | refine bel_trans ?_ (by assumption)))⟩
end Go.Proofs.Ytdhcmnbajkpjiaa
/-
  A forest of which nothing was dropped: the places come one behind the other; handles.
-/
namespace Go.Proofs.Ytdhcmnbajkpjiaa
open Go.RowKit
set_option linter.unusedVariables false
set_option linter.unusedSimpArgs false

structure Fresh (m : Nat) (S : FSt) (N : List Nat) : Prop where
  cl : S.cl = []
  fr : S.fr = m
  g : S.g = List.replicate 4096 0
  o : ∀ x, x ∈ S.O ↔ x < m
  n : N = List.range m
theorem Fresh.new : Fresh 0 (FSt.new 4096) [] := ⟨rfl, rfl, rfl, fun x => ⟨fun h => absurd (show x ∈ ([] : List Nat) from h) (by simp), fun h => absurd h (by omega)⟩, rfl⟩
variable {m : Nat} {S : FSt} {N : List Nat}
theorem Fresh.pick (h : Fresh m S N) (hm : m < 4096) : pickP S.cl S.fr 4096 = some (m, [], m + 1) := by
  unfold pickP
  rw [h.cl, h.fr, if_neg (by simp), if_pos hm]
theorem Fresh.add (h : Fresh m S N) (hm : m < 4096) (i : Nat) (q : Int) : Fresh (m + 1) (S.add 4096 i q) (N ++ [m]) := by
  unfold FSt.add
  rw [h.pick hm]
  refine ⟨rfl, rfl, h.g, fun x => ?_, ?_⟩
  · show x ∈ m :: S.O ↔ _
    rw [List.mem_cons, h.o]
    omega
  · rw [h.n, List.range_succ]
theorem Fresh.gen (h : Fresh m S N) (p : Nat) : S.g.getD p 0 = 0 := by
  rw [h.g]
  simp only [List.getD, List.getElem?_replicate]
  split <;> rfl
/-- The handle of a place's first region. -/
def hnd (p : Nat) : Int := (PH.put 2 (p : Int) 0 0).1
theorem hnd_ok {p : Nat} (hp : p < 4096) : (PH.put 2 (p : Int) 0 0).2 = 0 := by
  rw [PH.put_good (by omega) (by omega) ⟨by omega, by omega⟩ (by omega) (by omega)]
theorem hnd_bd (p : Nat) : -9223372036854775808 ≤ hnd p ∧ hnd p ≤ 9223372036854775807 := by
  have := PH.put_range 2 (p : Int) 0 0
  unfold hnd
  omega
theorem hnd_get {p : Nat} (hp : p < 4096) : PH.get (hnd p) = ((2, (p : Int), 0, 0), true) := (PH.get_put (hnd_ok hp)).1
theorem hnd_find {p : Nat} (hp : p < 4096) (S : FSt) : findV S (hnd p) = if rightB S.O S.g (p : Int) 0 = false then (0, 4) else ((p : Int), 0) := by
  unfold findV
  rw [hnd_get hp, if_neg (by simp)]
theorem hnd_inj {p q : Nat} (hp : p < 4096) (hq : q < 4096) (h : hnd p = hnd q) : p = q := by
  have := ((PH.put_inj (hnd_ok hp) (hnd_ok hq)).1 h).2.1
  omega
theorem Fresh.find (h : Fresh m S N) {p : Nat} (hp : p < m) (hm : m ≤ 4096) : findV S (hnd p) = ((p : Int), 0) := by
  rw [hnd_find (by omega)]
  have e : rightB S.O S.g (p : Int) 0 = true := by
    unfold rightB
    rw [Bool.and_eq_true, decide_eq_true_eq, decide_eq_true_eq]
    exact ⟨in_ints.2 ((h.o p).2 hp), by rw [show ((p : Int)).toNat = p by omega]; exact h.gen p⟩
  rw [e, if_neg (by simp)]
/-- Behind a free: what was dropped is stale, the rest is found. -/
theorem Fresh.gone (h : Fresh m S N) (hm : m ≤ 4096) {P : List Nat} (hr : NRel 4096 (dropsS S P) (cutsN N P)) {p : Nat} (hp : p < m) :
    findV (dropsS S P) (hnd p) = if p ∈ P then (0, 4) else ((p : Int), 0) := by
  rw [hnd_find (by omega)]
  have hnd : N.Nodup := by rw [h.n]; exact List.nodup_range
  have hO : p ∈ (dropsS S P).O ↔ p ∉ P := by
    rw [← hr.mem, cutsN_mem _ _ _ hnd, h.n, List.mem_range]
    exact ⟨fun h => h.2, fun h => ⟨hp, h⟩⟩
  by_cases hP : p ∈ P
  · have e : rightB (dropsS S P).O (dropsS S P).g (p : Int) 0 = false := by
      unfold rightB
      rw [Bool.and_eq_false_iff, decide_eq_false_iff_not]
      exact .inl (fun h2 => (hO.1 (in_ints.1 h2)) hP)
    rw [e, if_pos rfl, if_pos hP]
  · have e : rightB (dropsS S P).O (dropsS S P).g (p : Int) 0 = true := by
      unfold rightB
      rw [Bool.and_eq_true, decide_eq_true_eq, decide_eq_true_eq]
      exact ⟨in_ints.2 (hO.2 hP), by rw [show ((p : Int)).toNat = p by omega, dropsS_g _ _ _ hP]; exact h.gen p⟩
    rw [e, if_neg (by simp), if_neg hP]
/-- What New's regions are behind Root and Child. -/
def MadeF (w0 : World) (tb : Nat) (O : Nat → Prop) (N : List Nat) (S : FSt) (k : Nat) (st : Int → Option (Int × List Int × Int)) (m i : Nat) (q : Int) (c : Int) (w : World) (e : Ending) (w' : World) : Prop :=
  e = .returned (.tuple #[.int .i64 (hnd m), .int .i64 0]) ∧ TreesStep w0 w tb O (N ++ [m]) (S.add 4096 i q) (k + 1) (stNew st m c) w'
theorem made_F {w0 : World} {tb : Nat} {O : Nat → Prop} {k : Nat} {st : Int → Option (Int × List Int × Int)} {i : Nat} {q c : Int} {w : World} {e : Ending} {w' : World} (h : Fresh m S N) (hm : m < 4096) (hd : MadeReg w0 tb O N S k st i q m c w e w') :
    MadeF w0 tb O N S k st m i q c w e w' := by
  obtain ⟨e1, s1⟩ := hd
  rw [h.gen, hnd_ok hm] at e1
  exact ⟨e1, s1⟩
theorem works_pre : preW [0, 1] (((FSt.new 4096).add 4096 4096 (-1)).add 4096 0 ((0 : Nat) : Int)).up ((0 : Nat) : Int) = [0, 1] := by decide +kernel
theorem works_post : postW [0, 1] (((FSt.new 4096).add 4096 4096 (-1)).add 4096 0 ((0 : Nat) : Int)).up ((0 : Nat) : Int) = [1, 0] := by decide +kernel
theorem works_lay : PG.lay [6] 0 8 8 64 = ([6], 8, 6, 0, 0) := by decide +kernel
end Go.Proofs.Ytdhcmnbajkpjiaa
/-
  Layer 40 (region): the chapter's example.
-/
namespace Go.Proofs.Ytdhcmnbajkpjiaa
open Go.RowKit
set_option linter.unusedVariables false
set_option linter.unusedSimpArgs false
attribute [local go_sem] drewN_alloc drewN_setCell

theorem TreesOver.below {w0 w : World} {tb : Nat} {O : Nat → Prop} {N : List Nat} {S : FSt} {k : Nat} {st : Int → Option (Int × List Int × Int)} (h : TreesOver w0 w tb O N S k st) : Below w0.heap.size w0 w := by
  obtain ⟨mb, Fb, own, f, h0, _⟩ := h.ex
  exact h0.forest.below
theorem works_state : ∃ S1 S2, Fresh 1 S1 [0] ∧ (FSt.new 4096).add 4096 4096 (-1) = S1 ∧ S1.add 4096 0 ((0 : Nat) : Int) = S2 ∧ Fresh 2 S2 [0, 1] ∧ preW [0, 1] S2.up ((0 : Nat) : Int) = [0, 1] ∧ postW [0, 1] S2.up ((0 : Nat) : Int) = [1, 0] :=
  ⟨_, _, Fresh.new.add (by omega) _ _, rfl, rfl, (Fresh.new.add (by omega) _ _).add (by omega) _ _, works_pre, works_post⟩
set_option maxRecDepth 100000 in
set_option maxHeartbeats 16000000 in
theorem law40_works (w : World) : Calls Try.prog 89 #[] w fun e w' => e = .returned (.bool true) ∧ Below w.heap.size w w' := by
  have K0 := Lib.hid (region_New w)
  obtain ⟨S1, S2, F1, e1, e2, F2, hpre, hpost⟩ := works_state
  have HF1 := Lib.hid F1
  have HF2 := Lib.hid F2
  have HE1 := Lib.hid e1
  have HE2 := Lib.hid e2
  have HPRE := Lib.hid hpre
  have HPOST := Lib.hid hpost
  clear F1 F2 e1 e2 hpre hpost
  have b0 := hnd_bd 0
  have b1 := hnd_bd 1
  go_enter Try.func89, Try.ntmps89
  go_wp2_with fail
  refine K0.out.mono ?_
  intro e w1 hd
  obtain ⟨tb, O, rfl, t1, -⟩ := TreesOver.new hd
  have K1 := Lib.hid ((region_Root 3 ⟨by omega, by omega⟩ (by omega) t1 (Fresh.new.pick (by omega))).mono fun e w' hh => made_F Fresh.new (by omega) hh)
  clear t1 hd
  go_wp2_with fail
  refine K1.out.mono ?_
  rintro e w2 ⟨rfl, O2, t2, -, -⟩
  rw [HE1.out] at t2
  have K2 := Lib.hid ((region_Child (hnd 0) 0 (c := 3) (l := []) (cur := 0) b0.1 b0.2 (by omega) t2 (HF1.out.find (by omega) (by omega)) (by simp [stNew]) (HF1.out.pick (by omega))).mono fun e w' hh => made_F HF1.out (by omega) hh)
  clear t2 K1
  go_wp2_with fail
  refine K2.out.mono ?_
  rintro e w3 ⟨rfl, O3, t3, -, -⟩
  rw [HE2.out] at t3
  have K3 := region_Add (hnd 0) 5 0 (c := 3) (l := []) (cur := 0) b0.1 b0.2 (by omega) t3 (HF2.out.find (by omega) (by omega)) (by simp [stNew]) (by simp) (by decide)
  rw [show PG.add [] 0 5 = ([5], 0) by decide] at K3
  replace K3 := Lib.hid K3
  clear t3 K2
  go_wp2_with fail
  refine K3.out.mono ?_
  rintro e w4 ⟨rfl, O4, t4, -, -⟩
  have K4 := region_Add (hnd 1) 6 1 (c := 3) (l := []) (cur := 0) b1.1 b1.2 (by omega) t4 (HF2.out.find (by omega) (by omega)) (by simp [stNew, stSet]) (by simp) (by decide)
  rw [show PG.add [] 0 6 = ([6], 0) by decide] at K4
  replace K4 := Lib.hid K4
  clear t4 K3
  go_wp2_with fail
  refine K4.out.mono ?_
  rintro e w5 ⟨rfl, O5, t5, -, -⟩
  have K5 := region_Add_twice (hnd 1) 6 1 (c := 3) (l := [6]) (cur := 0) b1.1 b1.2 (by omega) t5 (HF2.out.find (by omega) (by omega)) (by simp [stNew, stSet]) (by simp) (by decide)
  rw [show PG.add [6] 0 6 = ([], 19) by decide] at K5
  replace K5 := Lib.hid K5
  replace t5 := Lib.hid t5
  clear K4
  go_wp2_with fail
  refine K5.out.mono ?_
  rintro e w6 ⟨rfl, c6⟩
  have t6 := t5.out.keep c6
  have K6 := region_Lay (hnd 1) 8 8 1 (c := 3) (l := [6]) (cur := 0) b1.1 b1.2 (by omega) t6 (HF2.out.find (by omega) (by omega)) (by simp [stNew, stSet]) (by simp) ⟨by omega, by omega⟩ ⟨by omega, by omega⟩ ⟨by omega, by omega⟩ (by rw [works_lay])
  rw [works_lay] at K6
  replace K6 := Lib.hid K6
  clear K5 t5 t6 c6
  dsimp only
  go_wp2_with fail
  refine K6.out.mono ?_
  rintro e w7 ⟨rfl, O7, t7, -, -⟩
  have hU : ∀ st, underV ([0] ++ [1]) S2 st 0 = chunksOf st 0 ++ chunksOf st 1 := fun st => by
    unfold underV
    show (preW [0, 1] S2.up ((0 : Nat) : Int)).flatMap _ = _
    rw [HPRE.out]
    simp
  have hl : underV ([0] ++ [1]) S2 (stSet (stSet (stSet (stNew (stNew (fun _ => none) ((0 : Nat) : Int) 3) ((1 : Nat) : Int) 3) ((0 : Nat) : Int) 3 [5] 0) ((1 : Nat) : Int) 3 [6] 0) ((1 : Nat) : Int) 3 [6] 8) 0 = [5, 6] := by
    rw [hU]; rfl
  have K7 := region_Free (hnd 0) 0 b0.1 b0.2 t7 (HF2.out.find (by omega) (by omega)) (fun x hx => by
    have hx' : x = 0 ∨ x = 1 := by simpa using hx
    rcases hx' with rfl | rfl
    · exact ⟨3, [5], 0, rfl⟩
    · exact ⟨3, [6], 8, rfl⟩) (by rw [hl]; decide)
  unfold FreedReg at K7
  rw [hl] at K7
  replace K7 := Lib.hid K7
  clear K6 t7 hU hl
  dsimp only
  go_wp2_with fail
  refine K7.out.mono ?_
  rintro e w8 ⟨v, rfl, o8, O8, t8, -, -⟩
  obtain ⟨A, c, rfl, i8, -⟩ := o8.ints
  have e8 : cutsN ([0] ++ [1]) (postW ([0] ++ [1]) S2.up ((0 : Nat) : Int)) = [] := by
    show cutsN [0, 1] (postW [0, 1] S2.up ((0 : Nat) : Int)) = []
    rw [HPOST.out]; rfl
  have hg := HF2.out.gone (by omega) t8.rel (p := 1) (by omega)
  rw [if_pos (by show 1 ∈ postW [0, 1] S2.up ((0 : Nat) : Int); rw [HPOST.out]; simp)] at hg
  have K8 := Lib.hid (region_Child_no (hnd 1) 4 b1.1 b1.2 (by omega) t8 hg)
  rw [e8] at t8
  have T8 := Lib.hid t8
  have I8 := Lib.hid i8
  clear t8 o8 i8 e8 hg K7
  go_wp2_with fail
  refine K8.out.mono ?_
  rintro e w9 ⟨rfl, c9⟩
  have C9 := Lib.hid c9
  clear c9 K8
  have hy : ∀ W : World, IntsAt (W.alloc (.cells #[.int .i64 5, .int .i64 6] 3)) (some ⟨W.heap.size, 0, none⟩) 2 [5, 6] := fun W => by
    have r : RowR (W.alloc (.cells #[.int .i64 5, .int .i64 6] 3)) W.heap.size 3 [.int .i64 5, .int .i64 6] := RowR.new W _ _
    refine ⟨rfl, by omega, fun _ => ⟨W.heap.size, 0, rfl, by simp, fun i hi => ?_⟩⟩
    have hi' : i = 0 ∨ i = 1 := by omega
    rcases hi' with rfl | rfl
    · exact (r.cell 0).trans rfl
    · exact (r.cell 1).trans rfl
  have KS : Hid (Calls Try.prog 45 #[.slice A 2 c, .slice (some ⟨w9.heap.size, 0, none⟩) 2 2] (w9.alloc (.cells #[.int .i64 5, .int .i64 6] 3)) fun e w' => e = .returned (.bool true) ∧ Below (w9.alloc (.cells #[.int .i64 5, .int .i64 6] 3)).heap.size (w9.alloc (.cells #[.int .i64 5, .int .i64 6] 3)) w') := Lib.hid (by
    have := base_SameInts c 2 ((I8.out.keep C9.out).keep (bel_alloc (Below.refl w9.heap.size w9) _)) (hy w9)
    rw [decide_eq_true rfl] at this
    exact this)
  clear hy
  simp only [List.length_cons, List.length_nil]
  go_wp2_with fail
  refine KS.out.mono ?_
  rintro e wa ⟨rfl, ca⟩
  have ta := T8.out.keep (bel_trans C9.out (bel_trans (bel_alloc (Below.refl w9.heap.size w9) _) ca))
  have KL := Lib.hid (region_Len ta)
  have TA := Lib.hid ta.below
  clear ca ta KS
  go_wp2_with fail
  refine KL.out.mono ?_
  rintro e wb ⟨rfl, cb⟩
  have CB := Lib.hid (bel_trans TA.out cb)
  clear cb KL
  go_wp2_with fail
  exact bodyPost_ret (v := .bool true) (by simp [results, Try.results89, go_sem]) rfl ⟨rfl, CB.out⟩
end Go.Proofs.Ytdhcmnbajkpjiaa
/-
  The plain law of PageRow: what one more thing laid gives.
-/
namespace Go.Proofs.Ytdhcmnbajkpjiaa
set_option linter.unusedVariables false

theorem PB_row {c s a k : Int} (hc : 0 ≤ c) (hk : k ≤ 9223372036854775807) (hk1 : 1 ≤ k) :
    (PB.place c s a k = (0, 0, 2)) ∨ (PB.place c s a k = (0, 0, 5)) ∨ (PB.place c s a k = (0, 0, 6)) ∨
    (PB.place 0 s a k = (0, s, 0) ∧ 1 ≤ s ∧ s ≤ k ∧ (PB.place c s a k = (0, 0, 9) ∨ ∃ U, PB.place c s a k = (U, U + s, 0) ∧ c ≤ U ∧ U + s ≤ k)) := by
  by_cases h : s < 1 ∨ k < 1 ∨ PN.power a = false
  · exact Or.inl (PB.place_arg (Or.inr h))
  · have hp : PN.power a = true := by cases hq : PN.power a <;> simp_all
    have ha := PN.power_pos hp
    have n1 : ∀ c : Int, 0 ≤ c → ¬ (c < 0 ∨ s < 1 ∨ k < 1 ∨ PN.power a = false) := fun c hc q => by
      rcases q with q | q
      · omega
      · exact h q
    by_cases h2 : k < s ∨ k < a
    · exact Or.inr (Or.inl (PB.place_size (n1 c hc) h2))
    · have u0 : PN.up 0 a = 0 := PN.up_same (by omega) ha (Int.zero_emod _)
      have p0 : PB.place 0 s a k = (0, s, 0) := by
        have := PB.place_ok (n1 0 (by omega)) h2 (by rw [u0]; omega) (by rw [u0]; omega)
        rw [u0, Int.zero_add] at this
        exact this
      obtain ⟨u1, u2, u3, u4⟩ := PN.up_bd hc ha
      by_cases h3 : 9223372036854775807 < PN.up c a + s
      · exact Or.inr (Or.inr (Or.inl (PB.place_over (n1 c hc) h2 h3)))
      · refine Or.inr (Or.inr (Or.inr ⟨p0, by omega, by omega, ?_⟩))
        by_cases h4 : k < PN.up c a + s
        · exact Or.inl (PB.place_dry (n1 c hc) h2 h3 h4)
        · exact Or.inr ⟨PN.up c a, PB.place_ok (n1 c hc) h2 h3 h4, u1, by omega⟩
namespace PG
/-- The chunks 0, 1, .. -/
def row (k : Nat) : List Int := (List.range k).map (fun i : Nat => (i : Int))
theorem row_len (k : Nat) : (row k).length = k := by simp [row]
theorem row_get {k j : Nat} (h : j < k) : (row k).getD j 0 = (j : Int) := by simp [row, List.getD, h]
theorem row_succ (k : Nat) : row (k + 1) = row k ++ [(k : Int)] := by simp [row, List.range_succ]
theorem row_mem {k : Nat} {x : Int} : x ∈ row k ↔ ∃ j : Nat, j < k ∧ (j : Int) = x := by simp [row]
theorem row_good {k : Nat} (hk : k ≤ 1000) : Good (row k) k := by
  intro j hj
  rw [row_get hj]
  refine ⟨(fit_iff _).2 ⟨by omega, by omega⟩, fun h => ?_⟩
  obtain ⟨i, hi, e⟩ := (mem_take_iff (by rw [row_len]; omega) _).1 h
  rw [row_get (by omega)] at e
  omega
theorem row_right {k : Nat} {c : Int} (hk : k ≤ 1000) (h0 : 0 ≤ c) (h : k = 0 → c = 0) : right (row k) c = true := by
  refine right_iff.2 ⟨h0, ?_, by rw [row_len]; exact row_good hk⟩
  by_cases e : k = 0
  · exact .inl (h e)
  · refine .inr (fun e2 => e ?_)
    have := congrArg List.length e2
    rw [row_len] at this
    simpa using this
theorem row_last {k : Nat} {c : Int} (hk : k ≤ 1000) (h0 : 0 ≤ c) (h1 : 1 ≤ k) : last (row k) c = (k : Int) - 1 := by
  have hne : row k ≠ [] := fun e2 => by
    have := congrArg List.length e2
    rw [row_len] at this
    simp at this
    omega
  unfold last
  rw [row_right hk h0 (by omega), decide_eq_true hne]
  simp only [Bool.and_self, if_true]
  rw [row_len, row_get (by omega)]
  omega
theorem row_cases {k : Nat} {c s a : Int} (hk : k ≤ 500) (h0 : 0 ≤ c) (h : k = 0 → c = 0) :
    (∃ e, lay (row k) c s a 64 = ([], 0, 0, 0, e) ∧ e ≠ 9 ∧ e ≠ 0) ∨
    (lay (row k) c s a 64 = ([], 0, 0, 0, 9) ∧ add (row k) c k = (row (k + 1), 0) ∧ lay (row (k + 1)) 0 s a 64 = (row (k + 1), s, ((k + 1 : Nat) : Int) - 1, 0, 0) ∧ 1 ≤ s ∧ s ≤ 64) ∨
    (1 ≤ k ∧ ∃ U, lay (row k) c s a 64 = (row k, U + s, (k : Int) - 1, U, 0) ∧ c ≤ U ∧ U + s ≤ 64 ∧ 1 ≤ s) := by
  have hr := row_right (k := k) (c := c) (by omega) h0 h
  have hl : lay (row k) c s a 64 = (if (PB.place c s a 64).2.2 ≠ 0 then ([], 0, 0, 0, (PB.place c s a 64).2.2) else if row k = [] then ([], 0, 0, 0, 9) else (row k, (PB.place c s a 64).2.1, last (row k) c, (PB.place c s a 64).1, 0)) := by
    unfold lay; rw [if_neg (by rw [hr]; simp)]
  have hadd : add (row k) c k = (row (k + 1), 0) := by
    unfold add
    rw [if_neg (by rw [hr, (fit_iff (k : Int)).2 ⟨by omega, by omega⟩]; simp), if_neg, row_succ]
    rintro hm
    obtain ⟨j, hj, e⟩ := row_mem.1 hm
    omega
  have hlay1 : PB.place 0 s a 64 = (0, s, 0) → lay (row (k + 1)) 0 s a 64 = (row (k + 1), s, ((k + 1 : Nat) : Int) - 1, 0, 0) := by
    intro e
    unfold lay
    rw [if_neg (by rw [row_right (by omega) (by omega) (by omega)]; simp), e, if_neg (by simp), if_neg (by rw [row_succ]; simp), row_last (by omega) (by omega) (by omega)]
  rcases PB_row (c := c) (s := s) (a := a) (k := 64) h0 (by omega) (by omega) with e | e | e | ⟨p0, s1, s2, e | ⟨U, e, u1, u2⟩⟩
  · exact .inl ⟨2, by rw [hl, e]; simp, by omega, by omega⟩
  · exact .inl ⟨5, by rw [hl, e]; simp, by omega, by omega⟩
  · exact .inl ⟨6, by rw [hl, e]; simp, by omega, by omega⟩
  · exact .inr (.inl ⟨by rw [hl, e]; simp, hadd, hlay1 p0, s1, s2⟩)
  · by_cases hk0 : k = 0
    · refine .inr (.inl ⟨by rw [hl, e, if_neg (by simp), if_pos (by rw [hk0]; rfl)], hadd, hlay1 p0, s1, s2⟩)
    · refine .inr (.inr ⟨by omega, U, ?_, u1, u2, s1⟩)
      rw [hl, e, if_neg (by simp), if_neg, row_last (by omega) h0 (by omega)]
      intro e2
      have := congrArg List.length e2
      rw [row_len] at this
      simp at this
      omega
end PG
end Go.Proofs.Ytdhcmnbajkpjiaa
/-
  Openers for slices whose elements are rows of ints (arrays, structs, nested ones).
-/
namespace Go.Proofs.Ytdhcmnbajkpjiaa.Fr
open Go.ChangeShapes Go.WideShapes Go.ChangeAt Go.RowKit Go.Deep

section
variable {H : Type} {enc : TypeId × Value → H} {P : Program} {w : World}

/-- A type whose cells are S ints. -/
def FlatInt {H : Type} (enc : TypeId × Value → H) (P : Program) (w : World) (sp : Nat → Bool) (e S : Nat) : Prop :=
  ∀ fuel cs x, DataW.trod enc P w 0 sp true fuel e cs = some x → cs.length = S ∧ ∀ j, j < S → ∃ n : Int, cs[j]? = some (Value.int .i64 n) ∧ -9223372036854775808 ≤ n ∧ n ≤ 9223372036854775807

theorem FlatInt.int {sp : Nat → Bool} {e : Nat} (he : P.underlying e = some (.int .i64)) : FlatInt enc P w sp e 1 := by
  intro fuel cs x h
  obtain ⟨n, rfl, _, hw⟩ := DataW.trod_int he h
  refine ⟨rfl, fun j hj => ?_⟩
  obtain rfl : j = 0 := by omega
  exact ⟨n, rfl, bounds_i64 hw⟩

theorem FlatInt.array {sp : Nat → Bool} {e n it S : Nat} (he : P.underlying e = some (.array n it)) (hi : FlatInt enc P w sp it S) (hS : P.cellsOf it = S) (hc : P.cellsOf e = n * S) (h0 : 0 < S) : FlatInt enc P w sp e (n * S) := by
  intro fuel cs x h
  obtain ⟨xs, m, _, _, hlen, hxl, hg⟩ := DataW.trod_array he h
  refine ⟨hlen.trans hc, fun j hj => ?_⟩
  have hq : j / S < n := Nat.div_lt_of_lt_mul (by rw [Nat.mul_comm]; exact hj)
  have h1 := hg (j / S) hq
  have hx : xs[j / S]? = some (xs[j / S]'(by omega)) := List.getElem?_eq_getElem (by omega)
  rw [hx, hS] at h1
  obtain ⟨_, h2⟩ := hi _ _ _ h1
  obtain ⟨v, hv, hb⟩ := h2 (j % S) (Nat.mod_lt _ h0)
  refine ⟨v, ?_, hb⟩
  rw [List.getElem?_take, if_pos (Nat.mod_lt _ h0), List.getElem?_drop] at hv
  rw [← hv]
  congr 1
  have := Nat.div_add_mod j S
  rw [Nat.mul_comm] at this
  omega

theorem FlatInt.struct {sp : Nat → Bool} {e S : Nat} {fs : Array Field} (he : P.underlying e = some (.struct fs)) (hc : P.cellsOf e = S)
    (hf : ∀ j, j < S → ∃ (i : Nat) (f : Field), fs[i]? = some f ∧ f.offset ≤ j ∧ j < f.offset + P.cellsOf f.type ∧ FlatInt enc P w sp f.type (P.cellsOf f.type)) : FlatInt enc P w sp e S := by
  intro fuel cs x h
  obtain ⟨xs, m, _, _, hlen, hxl, hg⟩ := DataW.trod_struct he h
  refine ⟨hlen.trans hc, fun j hj => ?_⟩
  obtain ⟨i, f, hfi, h1, h2, hfl⟩ := hf j hj
  have hil : i < fs.size := (Array.getElem?_eq_some_iff.1 hfi).1
  have h3 := hg i f hfi
  have hx : xs[i]? = some (xs[i]'(by omega)) := List.getElem?_eq_getElem (by omega)
  rw [hx] at h3
  obtain ⟨_, h4⟩ := hfl _ _ _ h3
  obtain ⟨v, hv, hb⟩ := h4 (j - f.offset) (by omega)
  refine ⟨v, ?_, hb⟩
  rw [List.getElem?_take, if_pos (by omega), List.getElem?_drop] at hv
  rw [← hv]
  congr 1
  omega

/-- What the walk is told of a slice of rows of S ints that came in. -/
def IsRows (w : World) (S : Nat) (a : Option Addr) (len cap : Nat) (F : Nat → Nat → Int) : Prop :=
  (a = none ∧ len = 0 ∧ cap = 0) ∨
  ∃ b off, a = some ⟨b, off, none⟩ ∧ (0 < len → b < w.heap.size) ∧ len ≤ cap ∧ cap ≤ maxLen ∧
    ∀ i, i < cap → ∀ j, j < S → w.cell? ⟨b, off + i * S + j, none⟩ = some (.int .i64 (F i j)) ∧ -9223372036854775808 ≤ F i j ∧ F i j ≤ 9223372036854775807

theorem open_rows {t e S : Nat} {a : Option Addr} {len cap : Nat} {d : DataW H} {ps : List MemPlace} {base : Nat} (ht : P.underlying t = some (.slice e)) (hS : P.cellsOf e = S) (h0 : 0 < S)
    (hfl : FlatInt enc P w (fun _ => true) e S)
    (h : DataW.Trod enc P w 0 (fun _ => true) true t (.slice a len cap) d ps) (hv : Value.okWide P w .any base t (.slice a len cap)) : ∃ F, IsRows w S a len cap F := by
  obtain ⟨fuel, hf⟩ := h
  rcases open_slice ht hf with ⟨hcs, _⟩ | ⟨x, l, c, m, n, D, Pl, hcs, hb, hl, hm, hmm, hx, hi⟩
  · simp [Value.cells] at hcs
    obtain ⟨rfl, rfl, rfl⟩ := hcs
    exact ⟨fun _ _ => 0, .inl ⟨rfl, rfl, rfl⟩⟩
  · simp [Value.cells] at hcs
    obtain ⟨rfl, rfl, rfl⟩ := hcs
    simp only [if_true] at hmm
    subst hmm
    have hsp : x.spot = none := by
      unfold Value.okWide at hv
      rw [ht] at hv
      simp only at hv
      unfold Cell.okWide at hv
      rw [ht] at hv
      simp only at hv
      unfold Cell.ok at hv
      rw [ht] at hv
      simp only at hv
      exact hv.2.2.2.1
    obtain ⟨b, off, spot⟩ := x
    simp only at hsp
    subst hsp
    have key : ∀ i j, i < m → j < S → ∃ v : Int, w.cell? ⟨b, off + i * S + j, none⟩ = some (.int .i64 v) ∧ -9223372036854775808 ≤ v ∧ v ≤ 9223372036854775807 := by
      intro i j him hjS
      obtain ⟨cs', hc, ht'⟩ := hi i him
      rw [hS] at hc
      obtain ⟨hlen, hfj⟩ := hfl _ _ _ ht'
      obtain ⟨v, hv', hb'⟩ := hfj j hjS
      obtain ⟨_, _, hat⟩ := World.cells?_some hc
      have hcell := hat j hjS
      refine ⟨v, ?_, hb'⟩
      rw [← hv', ← hcell]
      congr 1
      simp only [Addr.add]
      split <;> split <;> simp_all [Nat.add_assoc]
    refine ⟨fun i j => match w.cell? ⟨b, off + i * S + j, none⟩ with | some (.int _ n) => n | _ => 0, .inr ⟨b, off, rfl, fun hl0 => ?_, hl, hm, fun i him j hjS => ?_⟩⟩
    · obtain ⟨v, hv', _⟩ := key 0 0 (by omega) h0
      exact World.block_lt_of_cell? _ _ hv'
    · obtain ⟨v, hv', hb'⟩ := key i j him hjS
      simp only [hv']
      exact ⟨trivial, hb'⟩
end
end Go.Proofs.Ytdhcmnbajkpjiaa.Fr
/-
  Layer 40 (region): the walk of RegionRoom.
-/
namespace Go.Proofs.Ytdhcmnbajkpjiaa
open Go.RowKit
set_option linter.unusedVariables false
set_option linter.unusedSimpArgs false
attribute [local go_sem] drewN_alloc drewN_setCell

theorem law40_RegionRoom_long (a : Option Addr) (len cap : Nat) (w : World) (hl : 40 < (len : Int)) :
    Calls Try.prog 15 #[.slice a len cap] w fun e w' => e = .returned (.bool true) ∧ Below w.heap.size w w' := by
  have K := Lib.hid law40_works
  go_enter Try.func15, Try.ntmps15
  go_wp2_with fail
  refine (K.out _).mono ?_
  rintro e w1 ⟨rfl, k1⟩
  go_wp2_with fail
  go_ret
  exact ⟨rfl, (by repeat (first | exact Below.refl _ _ | assumption | refine bel_drew ?_ | refine bel_drewN ?_ _ | refine bel_alloc ?_ _ | refine bel_set ?_ (by first | (dsimp only; omega) | (simp; done) | (simp; omega)) _ | refine bel_trans ?_ (by assumption)))⟩

def RoomRel (w : World) (tb : Nat) (S : FSt) (len : Nat) (nn la en i : Value) (wr : World) : Prop :=
  ∃ (n j k : Nat) (cur : Int) (O : Nat → Prop) (st : Int → Option (Int × List Int × Int)), i = .int .i64 j ∧ j ≤ len ∧ nn = .int .i64 n ∧ la = .int .i64 ((n : Int) - 1) ∧ en = .int .i64 cur ∧ 0 ≤ cur ∧ cur ≤ 64 ∧ (n = 0 → cur = 0) ∧ n ≤ j ∧ k ≤ 3 * j + 1 ∧
    TreesOver w wr tb O [0] S k st ∧ st ((0 : Nat) : Int) = some (0, PG.row n, cur)
theorem st_same {st : Int → Option (Int × List Int × Int)} {q c cur : Int} {l : List Int} : stSet st q c l cur q = some (c, l, cur) := by unfold stSet; rw [if_pos rfl]
set_option maxRecDepth 100000 in
set_option maxHeartbeats 16000000 in
theorem law40_RegionRoom_some (a : Option Addr) (len cap : Nat) (G : Nat → Nat → Int) (w : World) (hl : (len : Int) ≤ 40) (hcell : 0 < len → ∃ b off, a = some ⟨b, off, none⟩ ∧ b < w.heap.size ∧
      ∀ i, i < len → ∀ j, j < 2 → w.cell? ⟨b, off + i * 2 + j, none⟩ = some (.int .i64 (G i j)) ∧ -9223372036854775808 ≤ G i j ∧ G i j ≤ 9223372036854775807) :
    Calls Try.prog 15 #[.slice a len cap] w fun e w' => e = .returned (.bool true) ∧ Below w.heap.size w w' := by
  have KW := Lib.hid law40_works
  have HC := Lib.hid hcell
  have hl' : decide ((40 : Int) < (len : Int)) = false := by simp; omega
  have K0 := Lib.hid (region_New w)
  obtain ⟨S1, -, F1, e1, -, -, -, -⟩ := works_state
  have HF1 := Lib.hid F1
  have HE1 := Lib.hid e1
  have HR : Hid (findV S1 (hnd 0) = (((0 : Nat) : Int), 0)) := Lib.hid (F1.find (by omega) (by omega))
  clear hcell F1 e1
  have b0 := hnd_bd 0
  go_enter Try.func15, Try.ntmps15
  go_wp2_with fail
  refine K0.out.mono ?_
  intro e w1 hd
  obtain ⟨tb, O, rfl, t1, -⟩ := TreesOver.new hd
  have K1 := Lib.hid ((region_Root 0 ⟨by omega, by omega⟩ (by omega) t1 (Fresh.new.pick (by omega))).mono fun e w' hh => made_F Fresh.new (by omega) hh)
  clear t1 hd
  go_wp2_with fail
  refine K1.out.mono ?_
  rintro e w2 ⟨rfl, O2, t2, -, -⟩
  rw [HE1.out] at t2
  have T2 := Lib.hid t2
  clear t2 K1 K0
  obtain ⟨h0, hh0⟩ : ∃ h0, hnd 0 = h0 := ⟨_, rfl⟩
  rw [hh0] at b0 HR ⊢
  clear hh0
  go_wp2_with fail
  go_loopw [6, 7, 8, 9] (fun nn la en i wr => RoomRel w tb S1 len nn la en i wr) (fun _ _ _ i _ => len - (intOf i).toNat)
  case atStart => exact ⟨0, 0, 1, 0, O2, _, rfl, Nat.zero_le _, rfl, rfl, rfl, by omega, by omega, fun _ => rfl, Nat.le_refl _, by omega, T2.out, by simp [stNew, PG.row]⟩
  case round =>
    obtain ⟨n, j, k, cur, O, st, rfl, hj, rfl, rfl, rfl, hc0, hc1, hn0, hnj, hk, ht, hst⟩ := hrel
    have HT := Lib.hid ht
    have HST := Lib.hid hst
    have hbel := ht.below
    clear ht hst
    by_cases hlt : (j : Int) < len
    · obtain ⟨b, off, rfl, hbw, hcs⟩ := HC.out (by omega)
      obtain ⟨x0, x1, x2⟩ := hcs j (by omega) 0 (by omega)
      obtain ⟨y0, y1, y2⟩ := hcs j (by omega) 1 (by omega)
      simp only [Nat.add_zero] at x0
      have hrow := PG.row_cases (k := n) (c := cur) (s := G j 0) (a := G j 1) (by omega) hc0 hn0
      clear hcs
      generalize G j 0 = s at *
      generalize G j 1 = al at *
      have i0 : (0 : Int) ≤ (j : Int) := by omega
      have hS : Hid (∀ W, Below w.heap.size w W → W.cell? ⟨b, off + j * 2, none⟩ = some (.int .i64 s) ∧ W.cell? ⟨b, off + j * 2 + 1, none⟩ = some (.int .i64 al)) := Lib.hid (fun W hW => ⟨(hW.cell hbw).trans x0, (hW.cell hbw).trans y0⟩)
      clear x0 y0
      have bs : -9223372036854775808 ≤ s ∧ s ≤ 9223372036854775807 := ⟨x1, x2⟩
      have ba : -9223372036854775808 ≤ al ∧ al ≤ 9223372036854775807 := ⟨y1, y2⟩
      have hk9 : k < 99000 := by omega
      rcases hrow with ⟨er, e1, e2, e3⟩ | ⟨e1, e2, e3, s1, s2⟩ | ⟨k1, U, e1, u1, u2, s1⟩
      · have KD : Hid (∀ W, Below wr.heap.size wr W → Calls Try.prog 92 #[.pointer (some ⟨tb, 0, none⟩), .int .i64 h0, .int .i64 s, .int .i64 al, .int .i64 64] W fun e w' => e = .returned (.tuple #[.int .i64 0, .int .i64 0, .int .i64 er]) ∧ Below W.heap.size W w') := Lib.hid (fun W hW => by
          have := region_Lay_dry h0 s al 0 b0.1 b0.2 (by omega) (HT.out.keep hW) HR.out HST.out (by rw [PG.row_len]; omega) ⟨by omega, by omega⟩ bs ba (by rw [e1]; exact e3)
          rw [e1] at this
          exact this)
        have q9 : (er == 9) = false := by simpa using e2
        have q0 : (er != 0) = true := by simpa using e3
        clear e1 e2 e3
        go_wp2_with fail
        refine wp_region_held_drew (S := (fun W : World => W.cell? ⟨b, off + j * 2, none⟩ = some (.int .i64 s) ∧ W.cell? ⟨b, off + j * 2 + 1, none⟩ = some (.int .i64 al))) (by kernel_rfl) ?_ (fun hHeld => ?_)
        focus ((try dsimp only); exact hS.out _ (by repeat (first | assumption | refine bel_drew ?_)))
        refine tk_yes 0 (v := ?_) rfl (by kernel_rfl) (by kernel_rfl) (by kernel_rfl) (fun _ _ _ h => h) (by kernel_rfl) (by assumption) ?_ ?_; rotate_left; (focus (intro w hSw; (try dsimp only at hSw); go_simp; (first | done | (with_reducible rfl)))); (try simp only [Act.put, List.setIfInBounds_toArray, List.set_cons_zero, List.set_cons_succ])
        refine tk_yes 1 (v := ?_) rfl (by kernel_rfl) (by kernel_rfl) (by kernel_rfl) (fun _ _ _ h => h) (by kernel_rfl) (by assumption) ?_ ?_; rotate_left; (focus (intro w hSw; (try dsimp only at hSw); go_simp; (first | done | (with_reducible rfl)))); (try simp only [Act.put, List.setIfInBounds_toArray, List.set_cons_zero, List.set_cons_succ])
        refine tk_yes 2 (v := ?_) rfl (by kernel_rfl) (by kernel_rfl) (by kernel_rfl) (fun _ _ _ h => h) (by kernel_rfl) (by assumption) ?_ ?_; rotate_left; (focus (intro w hSw; (try dsimp only at hSw); go_simp; (first | done | (with_reducible rfl)))); (try simp only [Act.put, List.setIfInBounds_toArray, List.set_cons_zero, List.set_cons_succ])
        refine tk_yes 3 (v := ?_) rfl (by kernel_rfl) (by kernel_rfl) (by kernel_rfl) (fun _ _ _ h => h) (by kernel_rfl) (by assumption) ?_ ?_; rotate_left; (focus (intro w hSw; (try dsimp only at hSw); go_simp; (first | done | (with_reducible rfl)))); (try simp only [Act.put, List.setIfInBounds_toArray, List.set_cons_zero, List.set_cons_succ])
        refine tk_yes 4 (v := ?_) rfl (by kernel_rfl) (by kernel_rfl) (by kernel_rfl) (fun _ _ _ h => h) (by kernel_rfl) (by assumption) ?_ ?_; rotate_left; (focus (intro w hSw; (try dsimp only at hSw); go_simp; (first | done | (with_reducible rfl)))); (try simp only [Act.put, List.setIfInBounds_toArray, List.set_cons_zero, List.set_cons_succ])
        refine tk_yes 5 (v := ?_) rfl (by kernel_rfl) (by kernel_rfl) (by kernel_rfl) (fun _ _ _ h => h) (by kernel_rfl) (by assumption) ?_ ?_; rotate_left; (focus (intro w hSw; (try dsimp only at hSw); go_simp; (first | done | (with_reducible rfl)))); (try simp only [Act.put, List.setIfInBounds_toArray, List.set_cons_zero, List.set_cons_succ])
        refine tk_yes 6 (v := ?_) rfl (by kernel_rfl) (by kernel_rfl) (by kernel_rfl) (fun _ _ _ h => h) (by kernel_rfl) (by assumption) ?_ ?_; rotate_left; (focus (intro w hSw; (try dsimp only at hSw); go_simp; (first | done | (with_reducible rfl)))); (try simp only [Act.put, List.setIfInBounds_toArray, List.set_cons_zero, List.set_cons_succ])
        refine tk_yes 7 (v := ?_) rfl (by kernel_rfl) (by kernel_rfl) (by kernel_rfl) (fun _ _ _ h => h) (by kernel_rfl) (by assumption) ?_ ?_; rotate_left; (focus (intro w hSw; (try dsimp only at hSw); go_simp; (first | done | (with_reducible rfl)))); (try simp only [Act.put, List.setIfInBounds_toArray, List.set_cons_zero, List.set_cons_succ])
        refine tk_yes 8 (v := ?_) rfl (by kernel_rfl) (by kernel_rfl) (by kernel_rfl) (fun _ _ _ h => h) (by kernel_rfl) (by assumption) ?_ ?_; rotate_left; (focus (intro w hSw; (try dsimp only at hSw); go_simp; (first | done | (with_reducible rfl)))); (try simp only [Act.put, List.setIfInBounds_toArray, List.set_cons_zero, List.set_cons_succ])
        refine tk_yes 9 (v := ?_) rfl (by kernel_rfl) (by kernel_rfl) (by kernel_rfl) (fun _ _ _ h => h) (by kernel_rfl) (by assumption) ?_ ?_; rotate_left; (focus (intro w hSw; (try dsimp only at hSw); go_simp; (first | done | (with_reducible rfl)))); (try simp only [Act.put, List.setIfInBounds_toArray, List.set_cons_zero, List.set_cons_succ])
        refine tk_yes 10 (v := ?_) rfl (by kernel_rfl) (by kernel_rfl) (by kernel_rfl) (fun _ _ _ h => h) (by kernel_rfl) (by assumption) ?_ ?_; rotate_left; (focus (intro w hSw; (try dsimp only at hSw); go_simp; (first | done | (with_reducible rfl)))); (try simp only [Act.put, List.setIfInBounds_toArray, List.set_cons_zero, List.set_cons_succ])
        refine tk_yes 11 (v := ?_) rfl (by kernel_rfl) (by kernel_rfl) (by kernel_rfl) (fun _ _ _ h => h) (by kernel_rfl) (by assumption) ?_ ?_; rotate_left; (focus (intro w hSw; (try dsimp only at hSw); go_simp; (first | done | (with_reducible rfl)))); (try simp only [Act.put, List.setIfInBounds_toArray, List.set_cons_zero, List.set_cons_succ])
        refine tk_call 12 rfl (by kernel_rfl) (by kernel_rfl) (fun KW hKW => ?_); go_simp; go_at_call 92; refine (KD.out _ (by repeat (first | exact Below.refl _ _ | assumption | refine bel_drew ?_))).mono ?_; rintro e w8 ⟨rfl, d8⟩; have q8 : Below wr.heap.size wr w8 := bel_trans (bel_drew (Below.refl _ _)) d8; have r8 := hbel.trans (q8.mono hbel.size); refine hKW.out _ _ ?_ (fun hHeld => ?_); (focus ((try dsimp only); exact hS.out _ (by repeat (first | assumption | refine bel_drew ?_)))); clear hKW KW; (try simp only [Act.put, List.setIfInBounds_toArray, List.set_cons_zero, List.set_cons_succ])
        refine tk_yes 13 (v := ?_) rfl (by kernel_rfl) (by kernel_rfl) (by kernel_rfl) (fun _ _ _ h => h) (by kernel_rfl) (by assumption) ?_ ?_; rotate_left; (focus (intro w hSw; (try dsimp only at hSw); go_simp; (first | done | (with_reducible rfl)))); (try simp only [Act.put, List.setIfInBounds_toArray, List.set_cons_zero, List.set_cons_succ])
        refine tk_yes 14 (v := ?_) rfl (by kernel_rfl) (by kernel_rfl) (by kernel_rfl) (fun _ _ _ h => h) (by kernel_rfl) (by assumption) ?_ ?_; rotate_left; (focus (intro w hSw; (try dsimp only at hSw); go_simp; (first | done | (with_reducible rfl)))); (try simp only [Act.put, List.setIfInBounds_toArray, List.set_cons_zero, List.set_cons_succ])
        refine tk_yes 15 (v := ?_) rfl (by kernel_rfl) (by kernel_rfl) (by kernel_rfl) (fun _ _ _ h => h) (by kernel_rfl) (by assumption) ?_ ?_; rotate_left; (focus (intro w hSw; (try dsimp only at hSw); go_simp; (first | done | (with_reducible rfl)))); (try simp only [Act.put, List.setIfInBounds_toArray, List.set_cons_zero, List.set_cons_succ])
        refine tk_yes 16 (v := ?_) rfl (by kernel_rfl) (by kernel_rfl) (by kernel_rfl) (fun _ _ _ h => h) (by kernel_rfl) (by assumption) ?_ ?_; rotate_left; (focus (intro w hSw; (try dsimp only at hSw); go_simp; (first | done | (with_reducible rfl)))); (try simp only [Act.put, List.setIfInBounds_toArray, List.set_cons_zero, List.set_cons_succ])
        refine tk_yes 17 (v := ?_) rfl (by kernel_rfl) (by kernel_rfl) (by kernel_rfl) (fun _ _ _ h => h) (by kernel_rfl) (by assumption) ?_ ?_; rotate_left; (focus (intro w hSw; (try dsimp only at hSw); go_simp; (first | done | (with_reducible rfl)))); (try simp only [Act.put, List.setIfInBounds_toArray, List.set_cons_zero, List.set_cons_succ])
        refine tk_yes 18 (v := ?_) rfl (by kernel_rfl) (by kernel_rfl) (by kernel_rfl) (fun _ _ _ h => h) (by kernel_rfl) (by assumption) ?_ ?_; rotate_left; (focus (intro w hSw; (try dsimp only at hSw); go_simp; (first | done | (with_reducible rfl)))); (try simp only [Act.put, List.setIfInBounds_toArray, List.set_cons_zero, List.set_cons_succ])
        refine tk_yes 19 (v := ?_) rfl (by kernel_rfl) (by kernel_rfl) (by kernel_rfl) (fun _ _ _ h => h) (by kernel_rfl) (by assumption) ?_ ?_; rotate_left; (focus (intro w hSw; (try dsimp only at hSw); go_simp; (first | done | (with_reducible rfl)))); (try simp only [Act.put, List.setIfInBounds_toArray, List.set_cons_zero, List.set_cons_succ])
        refine wpAnyH_done (by kernel_rfl) ?_ _
        go_wp2_with fail
        have t8 := HT.out.keep q8
        go_roundw
        case rel => exact ⟨n, j + 1, k, cur, O, st, by go_num, by omega, rfl, rfl, rfl, hc0, hc1, hn0, by omega, by omega, t8, HST.out⟩
        case measure => simp [intOf]; omega
      · have KD : Hid (∀ W, Below wr.heap.size wr W → Calls Try.prog 92 #[.pointer (some ⟨tb, 0, none⟩), .int .i64 h0, .int .i64 s, .int .i64 al, .int .i64 64] W fun e w' => e = .returned (.tuple #[.int .i64 0, .int .i64 0, .int .i64 9]) ∧ Below W.heap.size W w') := Lib.hid (fun W hW => by
          have := region_Lay_dry h0 s al 0 b0.1 b0.2 (by omega) (HT.out.keep hW) HR.out HST.out (by rw [PG.row_len]; omega) ⟨by omega, by omega⟩ bs ba (by rw [e1]; decide)
          rw [e1] at this
          exact this)
        clear e1
        go_wp2_with fail
        refine wp_region_held_drew (S := (fun W : World => W.cell? ⟨b, off + j * 2, none⟩ = some (.int .i64 s) ∧ W.cell? ⟨b, off + j * 2 + 1, none⟩ = some (.int .i64 al))) (by kernel_rfl) ?_ (fun hHeld => ?_)
        focus ((try dsimp only); exact hS.out _ (by repeat (first | assumption | refine bel_drew ?_)))
        refine tk_yes 0 (v := ?_) rfl (by kernel_rfl) (by kernel_rfl) (by kernel_rfl) (fun _ _ _ h => h) (by kernel_rfl) (by assumption) ?_ ?_; rotate_left; (focus (intro w hSw; (try dsimp only at hSw); go_simp; (first | done | (with_reducible rfl)))); (try simp only [Act.put, List.setIfInBounds_toArray, List.set_cons_zero, List.set_cons_succ])
        refine tk_yes 1 (v := ?_) rfl (by kernel_rfl) (by kernel_rfl) (by kernel_rfl) (fun _ _ _ h => h) (by kernel_rfl) (by assumption) ?_ ?_; rotate_left; (focus (intro w hSw; (try dsimp only at hSw); go_simp; (first | done | (with_reducible rfl)))); (try simp only [Act.put, List.setIfInBounds_toArray, List.set_cons_zero, List.set_cons_succ])
        refine tk_yes 2 (v := ?_) rfl (by kernel_rfl) (by kernel_rfl) (by kernel_rfl) (fun _ _ _ h => h) (by kernel_rfl) (by assumption) ?_ ?_; rotate_left; (focus (intro w hSw; (try dsimp only at hSw); go_simp; (first | done | (with_reducible rfl)))); (try simp only [Act.put, List.setIfInBounds_toArray, List.set_cons_zero, List.set_cons_succ])
        refine tk_yes 3 (v := ?_) rfl (by kernel_rfl) (by kernel_rfl) (by kernel_rfl) (fun _ _ _ h => h) (by kernel_rfl) (by assumption) ?_ ?_; rotate_left; (focus (intro w hSw; (try dsimp only at hSw); go_simp; (first | done | (with_reducible rfl)))); (try simp only [Act.put, List.setIfInBounds_toArray, List.set_cons_zero, List.set_cons_succ])
        refine tk_yes 4 (v := ?_) rfl (by kernel_rfl) (by kernel_rfl) (by kernel_rfl) (fun _ _ _ h => h) (by kernel_rfl) (by assumption) ?_ ?_; rotate_left; (focus (intro w hSw; (try dsimp only at hSw); go_simp; (first | done | (with_reducible rfl)))); (try simp only [Act.put, List.setIfInBounds_toArray, List.set_cons_zero, List.set_cons_succ])
        refine tk_yes 5 (v := ?_) rfl (by kernel_rfl) (by kernel_rfl) (by kernel_rfl) (fun _ _ _ h => h) (by kernel_rfl) (by assumption) ?_ ?_; rotate_left; (focus (intro w hSw; (try dsimp only at hSw); go_simp; (first | done | (with_reducible rfl)))); (try simp only [Act.put, List.setIfInBounds_toArray, List.set_cons_zero, List.set_cons_succ])
        refine tk_yes 6 (v := ?_) rfl (by kernel_rfl) (by kernel_rfl) (by kernel_rfl) (fun _ _ _ h => h) (by kernel_rfl) (by assumption) ?_ ?_; rotate_left; (focus (intro w hSw; (try dsimp only at hSw); go_simp; (first | done | (with_reducible rfl)))); (try simp only [Act.put, List.setIfInBounds_toArray, List.set_cons_zero, List.set_cons_succ])
        refine tk_yes 7 (v := ?_) rfl (by kernel_rfl) (by kernel_rfl) (by kernel_rfl) (fun _ _ _ h => h) (by kernel_rfl) (by assumption) ?_ ?_; rotate_left; (focus (intro w hSw; (try dsimp only at hSw); go_simp; (first | done | (with_reducible rfl)))); (try simp only [Act.put, List.setIfInBounds_toArray, List.set_cons_zero, List.set_cons_succ])
        refine tk_yes 8 (v := ?_) rfl (by kernel_rfl) (by kernel_rfl) (by kernel_rfl) (fun _ _ _ h => h) (by kernel_rfl) (by assumption) ?_ ?_; rotate_left; (focus (intro w hSw; (try dsimp only at hSw); go_simp; (first | done | (with_reducible rfl)))); (try simp only [Act.put, List.setIfInBounds_toArray, List.set_cons_zero, List.set_cons_succ])
        refine tk_yes 9 (v := ?_) rfl (by kernel_rfl) (by kernel_rfl) (by kernel_rfl) (fun _ _ _ h => h) (by kernel_rfl) (by assumption) ?_ ?_; rotate_left; (focus (intro w hSw; (try dsimp only at hSw); go_simp; (first | done | (with_reducible rfl)))); (try simp only [Act.put, List.setIfInBounds_toArray, List.set_cons_zero, List.set_cons_succ])
        refine tk_yes 10 (v := ?_) rfl (by kernel_rfl) (by kernel_rfl) (by kernel_rfl) (fun _ _ _ h => h) (by kernel_rfl) (by assumption) ?_ ?_; rotate_left; (focus (intro w hSw; (try dsimp only at hSw); go_simp; (first | done | (with_reducible rfl)))); (try simp only [Act.put, List.setIfInBounds_toArray, List.set_cons_zero, List.set_cons_succ])
        refine tk_yes 11 (v := ?_) rfl (by kernel_rfl) (by kernel_rfl) (by kernel_rfl) (fun _ _ _ h => h) (by kernel_rfl) (by assumption) ?_ ?_; rotate_left; (focus (intro w hSw; (try dsimp only at hSw); go_simp; (first | done | (with_reducible rfl)))); (try simp only [Act.put, List.setIfInBounds_toArray, List.set_cons_zero, List.set_cons_succ])
        refine tk_call 12 rfl (by kernel_rfl) (by kernel_rfl) (fun KW hKW => ?_); go_simp; go_at_call 92; refine (KD.out _ (by repeat (first | exact Below.refl _ _ | assumption | refine bel_drew ?_))).mono ?_; rintro e w8 ⟨rfl, d8⟩; have q8 : Below wr.heap.size wr w8 := bel_trans (bel_drew (Below.refl _ _)) d8; have r8 := hbel.trans (q8.mono hbel.size); refine hKW.out _ _ ?_ (fun hHeld => ?_); (focus ((try dsimp only); exact hS.out _ (by repeat (first | assumption | refine bel_drew ?_)))); clear hKW KW; (try simp only [Act.put, List.setIfInBounds_toArray, List.set_cons_zero, List.set_cons_succ])
        refine tk_yes 13 (v := ?_) rfl (by kernel_rfl) (by kernel_rfl) (by kernel_rfl) (fun _ _ _ h => h) (by kernel_rfl) (by assumption) ?_ ?_; rotate_left; (focus (intro w hSw; (try dsimp only at hSw); go_simp; (first | done | (with_reducible rfl)))); (try simp only [Act.put, List.setIfInBounds_toArray, List.set_cons_zero, List.set_cons_succ])
        refine tk_yes 14 (v := ?_) rfl (by kernel_rfl) (by kernel_rfl) (by kernel_rfl) (fun _ _ _ h => h) (by kernel_rfl) (by assumption) ?_ ?_; rotate_left; (focus (intro w hSw; (try dsimp only at hSw); go_simp; (first | done | (with_reducible rfl)))); (try simp only [Act.put, List.setIfInBounds_toArray, List.set_cons_zero, List.set_cons_succ])
        refine tk_yes 15 (v := ?_) rfl (by kernel_rfl) (by kernel_rfl) (by kernel_rfl) (fun _ _ _ h => h) (by kernel_rfl) (by assumption) ?_ ?_; rotate_left; (focus (intro w hSw; (try dsimp only at hSw); go_simp; (first | done | (with_reducible rfl)))); (try simp only [Act.put, List.setIfInBounds_toArray, List.set_cons_zero, List.set_cons_succ])
        refine tk_yes 16 (v := ?_) rfl (by kernel_rfl) (by kernel_rfl) (by kernel_rfl) (fun _ _ _ h => h) (by kernel_rfl) (by assumption) ?_ ?_; rotate_left; (focus (intro w hSw; (try dsimp only at hSw); go_simp; (first | done | (with_reducible rfl)))); (try simp only [Act.put, List.setIfInBounds_toArray, List.set_cons_zero, List.set_cons_succ])
        refine tk_yes 17 (v := ?_) rfl (by kernel_rfl) (by kernel_rfl) (by kernel_rfl) (fun _ _ _ h => h) (by kernel_rfl) (by assumption) ?_ ?_; rotate_left; (focus (intro w hSw; (try dsimp only at hSw); go_simp; (first | done | (with_reducible rfl)))); (try simp only [Act.put, List.setIfInBounds_toArray, List.set_cons_zero, List.set_cons_succ])
        refine tk_yes 18 (v := ?_) rfl (by kernel_rfl) (by kernel_rfl) (by kernel_rfl) (fun _ _ _ h => h) (by kernel_rfl) (by assumption) ?_ ?_; rotate_left; (focus (intro w hSw; (try dsimp only at hSw); go_simp; (first | done | (with_reducible rfl)))); (try simp only [Act.put, List.setIfInBounds_toArray, List.set_cons_zero, List.set_cons_succ])
        refine tk_yes 19 (v := ?_) rfl (by kernel_rfl) (by kernel_rfl) (by kernel_rfl) (fun _ _ _ h => h) (by kernel_rfl) (by assumption) ?_ ?_; rotate_left; (focus (intro w hSw; (try dsimp only at hSw); go_simp; (first | done | (with_reducible rfl)))); (try simp only [Act.put, List.setIfInBounds_toArray, List.set_cons_zero, List.set_cons_succ])
        refine wpAnyH_done (by kernel_rfl) ?_ _
        have t8 := HT.out.keep q8
        have KA := region_Add h0 (n : Int) 0 b0.1 b0.2 (by omega) t8 HR.out HST.out (by rw [PG.row_len]; omega) (by rw [e2])
        rw [e2] at KA
        replace KA := Lib.hid KA
        clear hHeld t8 q8 r8 hbel
        go_wp2_with fail
        refine KA.out.mono ?_
        rintro e w9 ⟨rfl, O9, t9, -, -⟩
        have hbel := t9.below
        have HT9 := Lib.hid t9
        have wn : IntKind.i64.wrap ((n : Int) + 1) = (n : Int) + 1 := IntWalk.i64_in _ (by omega)
        clear t9 KA
        obtain ⟨nn, hnn⟩ : ∃ nn, n + 1 = nn := ⟨_, rfl⟩
        have hni : (n : Int) + 1 = (nn : Int) := by omega
        rw [hnn] at HT9 e3
        have KS : Hid (∀ W, Below w9.heap.size w9 W → Calls Try.prog 92 #[.pointer (some ⟨tb, 0, none⟩), .int .i64 h0, .int .i64 s, .int .i64 al, .int .i64 64] W fun e w' => e = .returned (.tuple #[.int .i64 ((nn : Int) - 1), .int .i64 0, .int .i64 0]) ∧ TreesStep w W tb O9 [0] S1 (k + 1 + 1) (stSet (stSet st ((0 : Nat) : Int) 0 (PG.row nn) 0) ((0 : Nat) : Int) 0 (PG.row nn) s) w') := Lib.hid (fun W hW => by
          have := region_Lay h0 s al 0 b0.1 b0.2 (by omega) (HT9.out.keep hW) HR.out st_same (by rw [PG.row_len]; omega) ⟨by omega, by omega⟩ bs ba (by rw [e3])
          rw [e3] at this
          exact this)
        rw [hni] at wn
        clear e2 e3 hni
        have wk : IntKind.i64.wrap ((nn : Int) - 1) = (nn : Int) - 1 := IntWalk.i64_in _ (by omega)
        have ws : IntKind.i64.wrap s = s := IntWalk.i64_in _ (by omega)
        have gs : decide (64 < s) = false := by simp; omega
        have gl : ((nn : Int) - 1 == (n : Int) - 1) = false := by simp; omega
        go_wp2_with fail
        refine wp_region_held_drew (S := (fun W : World => W.cell? ⟨b, off + j * 2, none⟩ = some (.int .i64 s) ∧ W.cell? ⟨b, off + j * 2 + 1, none⟩ = some (.int .i64 al))) (by kernel_rfl) ?_ (fun hHeld => ?_)
        focus ((try dsimp only); exact hS.out _ (by repeat (first | assumption | refine bel_drew ?_)))
        refine tk_yes 0 (v := ?_) rfl (by kernel_rfl) (by kernel_rfl) (by kernel_rfl) (fun _ _ _ h => h) (by kernel_rfl) (by assumption) ?_ ?_; rotate_left; (focus (intro w hSw; (try dsimp only at hSw); go_simp; (first | done | (with_reducible rfl)))); (try simp only [Act.put, List.setIfInBounds_toArray, List.set_cons_zero, List.set_cons_succ])
        refine tk_yes 1 (v := ?_) rfl (by kernel_rfl) (by kernel_rfl) (by kernel_rfl) (fun _ _ _ h => h) (by kernel_rfl) (by assumption) ?_ ?_; rotate_left; (focus (intro w hSw; (try dsimp only at hSw); go_simp; (first | done | (with_reducible rfl)))); (try simp only [Act.put, List.setIfInBounds_toArray, List.set_cons_zero, List.set_cons_succ])
        refine tk_yes 2 (v := ?_) rfl (by kernel_rfl) (by kernel_rfl) (by kernel_rfl) (fun _ _ _ h => h) (by kernel_rfl) (by assumption) ?_ ?_; rotate_left; (focus (intro w hSw; (try dsimp only at hSw); go_simp; (first | done | (with_reducible rfl)))); (try simp only [Act.put, List.setIfInBounds_toArray, List.set_cons_zero, List.set_cons_succ])
        refine tk_yes 3 (v := ?_) rfl (by kernel_rfl) (by kernel_rfl) (by kernel_rfl) (fun _ _ _ h => h) (by kernel_rfl) (by assumption) ?_ ?_; rotate_left; (focus (intro w hSw; (try dsimp only at hSw); go_simp; (first | done | (with_reducible rfl)))); (try simp only [Act.put, List.setIfInBounds_toArray, List.set_cons_zero, List.set_cons_succ])
        refine tk_yes 4 (v := ?_) rfl (by kernel_rfl) (by kernel_rfl) (by kernel_rfl) (fun _ _ _ h => h) (by kernel_rfl) (by assumption) ?_ ?_; rotate_left; (focus (intro w hSw; (try dsimp only at hSw); go_simp; (first | done | (with_reducible rfl)))); (try simp only [Act.put, List.setIfInBounds_toArray, List.set_cons_zero, List.set_cons_succ])
        refine tk_yes 5 (v := ?_) rfl (by kernel_rfl) (by kernel_rfl) (by kernel_rfl) (fun _ _ _ h => h) (by kernel_rfl) (by assumption) ?_ ?_; rotate_left; (focus (intro w hSw; (try dsimp only at hSw); go_simp; (first | done | (with_reducible rfl)))); (try simp only [Act.put, List.setIfInBounds_toArray, List.set_cons_zero, List.set_cons_succ])
        refine tk_yes 6 (v := ?_) rfl (by kernel_rfl) (by kernel_rfl) (by kernel_rfl) (fun _ _ _ h => h) (by kernel_rfl) (by assumption) ?_ ?_; rotate_left; (focus (intro w hSw; (try dsimp only at hSw); go_simp; (first | done | (with_reducible rfl)))); (try simp only [Act.put, List.setIfInBounds_toArray, List.set_cons_zero, List.set_cons_succ])
        refine tk_yes 7 (v := ?_) rfl (by kernel_rfl) (by kernel_rfl) (by kernel_rfl) (fun _ _ _ h => h) (by kernel_rfl) (by assumption) ?_ ?_; rotate_left; (focus (intro w hSw; (try dsimp only at hSw); go_simp; (first | done | (with_reducible rfl)))); (try simp only [Act.put, List.setIfInBounds_toArray, List.set_cons_zero, List.set_cons_succ])
        refine tk_yes 8 (v := ?_) rfl (by kernel_rfl) (by kernel_rfl) (by kernel_rfl) (fun _ _ _ h => h) (by kernel_rfl) (by assumption) ?_ ?_; rotate_left; (focus (intro w hSw; (try dsimp only at hSw); go_simp; (first | done | (with_reducible rfl)))); (try simp only [Act.put, List.setIfInBounds_toArray, List.set_cons_zero, List.set_cons_succ])
        refine tk_yes 9 (v := ?_) rfl (by kernel_rfl) (by kernel_rfl) (by kernel_rfl) (fun _ _ _ h => h) (by kernel_rfl) (by assumption) ?_ ?_; rotate_left; (focus (intro w hSw; (try dsimp only at hSw); go_simp; (first | done | (with_reducible rfl)))); (try simp only [Act.put, List.setIfInBounds_toArray, List.set_cons_zero, List.set_cons_succ])
        refine tk_yes 10 (v := ?_) rfl (by kernel_rfl) (by kernel_rfl) (by kernel_rfl) (fun _ _ _ h => h) (by kernel_rfl) (by assumption) ?_ ?_; rotate_left; (focus (intro w hSw; (try dsimp only at hSw); go_simp; (first | done | (with_reducible rfl)))); (try simp only [Act.put, List.setIfInBounds_toArray, List.set_cons_zero, List.set_cons_succ])
        refine tk_yes 11 (v := ?_) rfl (by kernel_rfl) (by kernel_rfl) (by kernel_rfl) (fun _ _ _ h => h) (by kernel_rfl) (by assumption) ?_ ?_; rotate_left; (focus (intro w hSw; (try dsimp only at hSw); go_simp; (first | done | (with_reducible rfl)))); (try simp only [Act.put, List.setIfInBounds_toArray, List.set_cons_zero, List.set_cons_succ])
        refine tk_call 12 rfl (by kernel_rfl) (by kernel_rfl) (fun KW hKW => ?_); go_simp; go_at_call 92; refine (KS.out _ (by repeat (first | exact Below.refl _ _ | assumption | refine bel_drew ?_))).mono ?_; rintro e w8 ⟨rfl, s8⟩; obtain ⟨O8, t8, -, -⟩ := s8; have r8 := t8.below; replace t8 := Lib.hid t8; refine hKW.out _ _ ?_ (fun hHeld => ?_); (focus ((try dsimp only); exact hS.out _ (by repeat (first | assumption | refine bel_drew ?_)))); clear hKW KW; (try simp only [Act.put, List.setIfInBounds_toArray, List.set_cons_zero, List.set_cons_succ])
        refine tk_yes 13 (v := ?_) rfl (by kernel_rfl) (by kernel_rfl) (by kernel_rfl) (fun _ _ _ h => h) (by kernel_rfl) (by assumption) ?_ ?_; rotate_left; (focus (intro w hSw; (try dsimp only at hSw); go_simp; (first | done | (with_reducible rfl)))); (try simp only [Act.put, List.setIfInBounds_toArray, List.set_cons_zero, List.set_cons_succ])
        refine tk_yes 14 (v := ?_) rfl (by kernel_rfl) (by kernel_rfl) (by kernel_rfl) (fun _ _ _ h => h) (by kernel_rfl) (by assumption) ?_ ?_; rotate_left; (focus (intro w hSw; (try dsimp only at hSw); go_simp; (first | done | (with_reducible rfl)))); (try simp only [Act.put, List.setIfInBounds_toArray, List.set_cons_zero, List.set_cons_succ])
        refine tk_yes 15 (v := ?_) rfl (by kernel_rfl) (by kernel_rfl) (by kernel_rfl) (fun _ _ _ h => h) (by kernel_rfl) (by assumption) ?_ ?_; rotate_left; (focus (intro w hSw; (try dsimp only at hSw); go_simp; (first | done | (with_reducible rfl)))); (try simp only [Act.put, List.setIfInBounds_toArray, List.set_cons_zero, List.set_cons_succ])
        refine tk_yes 16 (v := ?_) rfl (by kernel_rfl) (by kernel_rfl) (by kernel_rfl) (fun _ _ _ h => h) (by kernel_rfl) (by assumption) ?_ ?_; rotate_left; (focus (intro w hSw; (try dsimp only at hSw); go_simp; (first | done | (with_reducible rfl)))); (try simp only [Act.put, List.setIfInBounds_toArray, List.set_cons_zero, List.set_cons_succ])
        refine tk_yes 17 (v := ?_) rfl (by kernel_rfl) (by kernel_rfl) (by kernel_rfl) (fun _ _ _ h => h) (by kernel_rfl) (by assumption) ?_ ?_; rotate_left; (focus (intro w hSw; (try dsimp only at hSw); go_simp; (first | done | (with_reducible rfl)))); (try simp only [Act.put, List.setIfInBounds_toArray, List.set_cons_zero, List.set_cons_succ])
        refine tk_yes 18 (v := ?_) rfl (by kernel_rfl) (by kernel_rfl) (by kernel_rfl) (fun _ _ _ h => h) (by kernel_rfl) (by assumption) ?_ ?_; rotate_left; (focus (intro w hSw; (try dsimp only at hSw); go_simp; (first | done | (with_reducible rfl)))); (try simp only [Act.put, List.setIfInBounds_toArray, List.set_cons_zero, List.set_cons_succ])
        refine tk_yes 19 (v := ?_) rfl (by kernel_rfl) (by kernel_rfl) (by kernel_rfl) (fun _ _ _ h => h) (by kernel_rfl) (by assumption) ?_ ?_; rotate_left; (focus (intro w hSw; (try dsimp only at hSw); go_simp; (first | done | (with_reducible rfl)))); (try simp only [Act.put, List.setIfInBounds_toArray, List.set_cons_zero, List.set_cons_succ])
        refine wpAnyH_done (by kernel_rfl) ?_ _
        go_wp2_with fail
        refine wp_region_held_drew (S := (fun W : World => W.cell? ⟨b, off + j * 2, none⟩ = some (.int .i64 s) ∧ W.cell? ⟨b, off + j * 2 + 1, none⟩ = some (.int .i64 al))) (by kernel_rfl) ?_ (fun hHeld => ?_)
        focus ((try dsimp only); exact hS.out _ (by repeat (first | assumption | refine bel_drew ?_)))
        refine tk_yes 0 (v := ?_) rfl (by kernel_rfl) (by kernel_rfl) (by kernel_rfl) (fun _ _ _ h => h) (by kernel_rfl) (by assumption) ?_ ?_; rotate_left; (focus (intro w hSw; (try dsimp only at hSw); go_simp; (first | done | (with_reducible rfl)))); (try simp only [Act.put, List.setIfInBounds_toArray, List.set_cons_zero, List.set_cons_succ])
        refine tk_yes 1 (v := ?_) rfl (by kernel_rfl) (by kernel_rfl) (by kernel_rfl) (fun _ _ _ h => h) (by kernel_rfl) (by assumption) ?_ ?_; rotate_left; (focus (intro w hSw; (try dsimp only at hSw); go_simp; (first | done | (with_reducible rfl)))); (try simp only [Act.put, List.setIfInBounds_toArray, List.set_cons_zero, List.set_cons_succ])
        refine tk_yes 2 (v := ?_) rfl (by kernel_rfl) (by kernel_rfl) (by kernel_rfl) (fun _ _ _ h => h) (by kernel_rfl) (by assumption) ?_ ?_; rotate_left; (focus (intro w hSw; (try dsimp only at hSw); go_simp; (first | done | (with_reducible rfl)))); (try simp only [Act.put, List.setIfInBounds_toArray, List.set_cons_zero, List.set_cons_succ])
        refine tk_yes 3 (v := ?_) rfl (by kernel_rfl) (by kernel_rfl) (by kernel_rfl) (fun _ _ _ h => h) (by kernel_rfl) (by assumption) ?_ ?_; rotate_left; (focus (intro w hSw; (try dsimp only at hSw); go_simp; (first | done | (with_reducible rfl)))); (try simp only [Act.put, List.setIfInBounds_toArray, List.set_cons_zero, List.set_cons_succ])
        refine tk_yes 4 (v := ?_) rfl (by kernel_rfl) (by kernel_rfl) (by kernel_rfl) (fun _ _ _ h => h) (by kernel_rfl) (by assumption) ?_ ?_; rotate_left; (focus (intro w hSw; (try dsimp only at hSw); go_simp; (first | done | (with_reducible rfl)))); (try simp only [Act.put, List.setIfInBounds_toArray, List.set_cons_zero, List.set_cons_succ])
        refine tk_yes 5 (v := ?_) rfl (by kernel_rfl) (by kernel_rfl) (by kernel_rfl) (fun _ _ _ h => h) (by kernel_rfl) (by assumption) ?_ ?_; rotate_left; (focus (intro w hSw; (try dsimp only at hSw); go_simp; (first | done | (with_reducible rfl)))); (try simp only [Act.put, List.setIfInBounds_toArray, List.set_cons_zero, List.set_cons_succ])
        refine tk_yes 6 (v := ?_) rfl (by kernel_rfl) (by kernel_rfl) (by kernel_rfl) (fun _ _ _ h => h) (by kernel_rfl) (by assumption) ?_ ?_; rotate_left; (focus (intro w hSw; (try dsimp only at hSw); go_simp; (first | done | (with_reducible rfl)))); (try simp only [Act.put, List.setIfInBounds_toArray, List.set_cons_zero, List.set_cons_succ])
        refine tk_yes 7 (v := ?_) rfl (by kernel_rfl) (by kernel_rfl) (by kernel_rfl) (fun _ _ _ h => h) (by kernel_rfl) (by assumption) ?_ ?_; rotate_left; (focus (intro w hSw; (try dsimp only at hSw); go_simp; (first | done | (with_reducible rfl)))); (try simp only [Act.put, List.setIfInBounds_toArray, List.set_cons_zero, List.set_cons_succ])
        refine tk_yes 8 (v := ?_) rfl (by kernel_rfl) (by kernel_rfl) (by kernel_rfl) (fun _ _ _ h => h) (by kernel_rfl) (by assumption) ?_ ?_; rotate_left; (focus (intro w hSw; (try dsimp only at hSw); go_simp; (first | done | (with_reducible rfl)))); (try simp only [Act.put, List.setIfInBounds_toArray, List.set_cons_zero, List.set_cons_succ])
        refine tk_yes 9 (v := ?_) rfl (by kernel_rfl) (by kernel_rfl) (by kernel_rfl) (fun _ _ _ h => h) (by kernel_rfl) (by assumption) ?_ ?_; rotate_left; (focus (intro w hSw; (try dsimp only at hSw); go_simp; (first | done | (with_reducible rfl)))); (try simp only [Act.put, List.setIfInBounds_toArray, List.set_cons_zero, List.set_cons_succ])
        refine wpAnyH_done (by kernel_rfl) ?_ _
        go_wp2_with fail
        have td := t8.out.keep (bel_drew (Below.refl w8.heap.size w8))
        go_roundw
        case rel => exact ⟨nn, j + 1, k + 1 + 1, s, O8, _, by go_num, by omega, (by congr 1; omega), (by congr 1; omega), rfl, by omega, by omega, fun h => absurd h (by omega), by omega, by omega, td, st_same⟩
        case measure => simp [intOf]; omega
      · have KS : Hid (∀ W, Below wr.heap.size wr W → Calls Try.prog 92 #[.pointer (some ⟨tb, 0, none⟩), .int .i64 h0, .int .i64 s, .int .i64 al, .int .i64 64] W fun e w' => e = .returned (.tuple #[.int .i64 ((n : Int) - 1), .int .i64 U, .int .i64 0]) ∧ TreesStep w W tb O [0] S1 (k + 1) (stSet st ((0 : Nat) : Int) 0 (PG.row n) (U + s)) w') := Lib.hid (fun W hW => by
          have := region_Lay h0 s al 0 b0.1 b0.2 (by omega) (HT.out.keep hW) HR.out HST.out (by rw [PG.row_len]; omega) ⟨by omega, by omega⟩ bs ba (by rw [e1])
          rw [e1] at this
          exact this)
        clear e1
        have wk : IntKind.i64.wrap ((n : Int) - 1) = (n : Int) - 1 := IntWalk.i64_in _ (by omega)
        have ws : IntKind.i64.wrap (U + s) = U + s := IntWalk.i64_in _ (by omega)
        have gs : decide (64 < U + s) = false := by simp; omega
        have gu : decide (U < cur) = false := by simp; omega
        go_wp2_with fail
        refine wp_region_held_drew (S := (fun W : World => W.cell? ⟨b, off + j * 2, none⟩ = some (.int .i64 s) ∧ W.cell? ⟨b, off + j * 2 + 1, none⟩ = some (.int .i64 al))) (by kernel_rfl) ?_ (fun hHeld => ?_)
        focus ((try dsimp only); exact hS.out _ (by repeat (first | assumption | refine bel_drew ?_)))
        refine tk_yes 0 (v := ?_) rfl (by kernel_rfl) (by kernel_rfl) (by kernel_rfl) (fun _ _ _ h => h) (by kernel_rfl) (by assumption) ?_ ?_; rotate_left; (focus (intro w hSw; (try dsimp only at hSw); go_simp; (first | done | (with_reducible rfl)))); (try simp only [Act.put, List.setIfInBounds_toArray, List.set_cons_zero, List.set_cons_succ])
        refine tk_yes 1 (v := ?_) rfl (by kernel_rfl) (by kernel_rfl) (by kernel_rfl) (fun _ _ _ h => h) (by kernel_rfl) (by assumption) ?_ ?_; rotate_left; (focus (intro w hSw; (try dsimp only at hSw); go_simp; (first | done | (with_reducible rfl)))); (try simp only [Act.put, List.setIfInBounds_toArray, List.set_cons_zero, List.set_cons_succ])
        refine tk_yes 2 (v := ?_) rfl (by kernel_rfl) (by kernel_rfl) (by kernel_rfl) (fun _ _ _ h => h) (by kernel_rfl) (by assumption) ?_ ?_; rotate_left; (focus (intro w hSw; (try dsimp only at hSw); go_simp; (first | done | (with_reducible rfl)))); (try simp only [Act.put, List.setIfInBounds_toArray, List.set_cons_zero, List.set_cons_succ])
        refine tk_yes 3 (v := ?_) rfl (by kernel_rfl) (by kernel_rfl) (by kernel_rfl) (fun _ _ _ h => h) (by kernel_rfl) (by assumption) ?_ ?_; rotate_left; (focus (intro w hSw; (try dsimp only at hSw); go_simp; (first | done | (with_reducible rfl)))); (try simp only [Act.put, List.setIfInBounds_toArray, List.set_cons_zero, List.set_cons_succ])
        refine tk_yes 4 (v := ?_) rfl (by kernel_rfl) (by kernel_rfl) (by kernel_rfl) (fun _ _ _ h => h) (by kernel_rfl) (by assumption) ?_ ?_; rotate_left; (focus (intro w hSw; (try dsimp only at hSw); go_simp; (first | done | (with_reducible rfl)))); (try simp only [Act.put, List.setIfInBounds_toArray, List.set_cons_zero, List.set_cons_succ])
        refine tk_yes 5 (v := ?_) rfl (by kernel_rfl) (by kernel_rfl) (by kernel_rfl) (fun _ _ _ h => h) (by kernel_rfl) (by assumption) ?_ ?_; rotate_left; (focus (intro w hSw; (try dsimp only at hSw); go_simp; (first | done | (with_reducible rfl)))); (try simp only [Act.put, List.setIfInBounds_toArray, List.set_cons_zero, List.set_cons_succ])
        refine tk_yes 6 (v := ?_) rfl (by kernel_rfl) (by kernel_rfl) (by kernel_rfl) (fun _ _ _ h => h) (by kernel_rfl) (by assumption) ?_ ?_; rotate_left; (focus (intro w hSw; (try dsimp only at hSw); go_simp; (first | done | (with_reducible rfl)))); (try simp only [Act.put, List.setIfInBounds_toArray, List.set_cons_zero, List.set_cons_succ])
        refine tk_yes 7 (v := ?_) rfl (by kernel_rfl) (by kernel_rfl) (by kernel_rfl) (fun _ _ _ h => h) (by kernel_rfl) (by assumption) ?_ ?_; rotate_left; (focus (intro w hSw; (try dsimp only at hSw); go_simp; (first | done | (with_reducible rfl)))); (try simp only [Act.put, List.setIfInBounds_toArray, List.set_cons_zero, List.set_cons_succ])
        refine tk_yes 8 (v := ?_) rfl (by kernel_rfl) (by kernel_rfl) (by kernel_rfl) (fun _ _ _ h => h) (by kernel_rfl) (by assumption) ?_ ?_; rotate_left; (focus (intro w hSw; (try dsimp only at hSw); go_simp; (first | done | (with_reducible rfl)))); (try simp only [Act.put, List.setIfInBounds_toArray, List.set_cons_zero, List.set_cons_succ])
        refine tk_yes 9 (v := ?_) rfl (by kernel_rfl) (by kernel_rfl) (by kernel_rfl) (fun _ _ _ h => h) (by kernel_rfl) (by assumption) ?_ ?_; rotate_left; (focus (intro w hSw; (try dsimp only at hSw); go_simp; (first | done | (with_reducible rfl)))); (try simp only [Act.put, List.setIfInBounds_toArray, List.set_cons_zero, List.set_cons_succ])
        refine tk_yes 10 (v := ?_) rfl (by kernel_rfl) (by kernel_rfl) (by kernel_rfl) (fun _ _ _ h => h) (by kernel_rfl) (by assumption) ?_ ?_; rotate_left; (focus (intro w hSw; (try dsimp only at hSw); go_simp; (first | done | (with_reducible rfl)))); (try simp only [Act.put, List.setIfInBounds_toArray, List.set_cons_zero, List.set_cons_succ])
        refine tk_yes 11 (v := ?_) rfl (by kernel_rfl) (by kernel_rfl) (by kernel_rfl) (fun _ _ _ h => h) (by kernel_rfl) (by assumption) ?_ ?_; rotate_left; (focus (intro w hSw; (try dsimp only at hSw); go_simp; (first | done | (with_reducible rfl)))); (try simp only [Act.put, List.setIfInBounds_toArray, List.set_cons_zero, List.set_cons_succ])
        refine tk_call 12 rfl (by kernel_rfl) (by kernel_rfl) (fun KW hKW => ?_); go_simp; go_at_call 92; refine (KS.out _ (by repeat (first | exact Below.refl _ _ | assumption | refine bel_drew ?_))).mono ?_; rintro e w8 ⟨rfl, s8⟩; obtain ⟨O8, t8, -, -⟩ := s8; have r8 := t8.below; replace t8 := Lib.hid t8; refine hKW.out _ _ ?_ (fun hHeld => ?_); (focus ((try dsimp only); exact hS.out _ (by repeat (first | assumption | refine bel_drew ?_)))); clear hKW KW; (try simp only [Act.put, List.setIfInBounds_toArray, List.set_cons_zero, List.set_cons_succ])
        refine tk_yes 13 (v := ?_) rfl (by kernel_rfl) (by kernel_rfl) (by kernel_rfl) (fun _ _ _ h => h) (by kernel_rfl) (by assumption) ?_ ?_; rotate_left; (focus (intro w hSw; (try dsimp only at hSw); go_simp; (first | done | (with_reducible rfl)))); (try simp only [Act.put, List.setIfInBounds_toArray, List.set_cons_zero, List.set_cons_succ])
        refine tk_yes 14 (v := ?_) rfl (by kernel_rfl) (by kernel_rfl) (by kernel_rfl) (fun _ _ _ h => h) (by kernel_rfl) (by assumption) ?_ ?_; rotate_left; (focus (intro w hSw; (try dsimp only at hSw); go_simp; (first | done | (with_reducible rfl)))); (try simp only [Act.put, List.setIfInBounds_toArray, List.set_cons_zero, List.set_cons_succ])
        refine tk_yes 15 (v := ?_) rfl (by kernel_rfl) (by kernel_rfl) (by kernel_rfl) (fun _ _ _ h => h) (by kernel_rfl) (by assumption) ?_ ?_; rotate_left; (focus (intro w hSw; (try dsimp only at hSw); go_simp; (first | done | (with_reducible rfl)))); (try simp only [Act.put, List.setIfInBounds_toArray, List.set_cons_zero, List.set_cons_succ])
        refine tk_yes 16 (v := ?_) rfl (by kernel_rfl) (by kernel_rfl) (by kernel_rfl) (fun _ _ _ h => h) (by kernel_rfl) (by assumption) ?_ ?_; rotate_left; (focus (intro w hSw; (try dsimp only at hSw); go_simp; (first | done | (with_reducible rfl)))); (try simp only [Act.put, List.setIfInBounds_toArray, List.set_cons_zero, List.set_cons_succ])
        refine tk_yes 17 (v := ?_) rfl (by kernel_rfl) (by kernel_rfl) (by kernel_rfl) (fun _ _ _ h => h) (by kernel_rfl) (by assumption) ?_ ?_; rotate_left; (focus (intro w hSw; (try dsimp only at hSw); go_simp; (first | done | (with_reducible rfl)))); (try simp only [Act.put, List.setIfInBounds_toArray, List.set_cons_zero, List.set_cons_succ])
        refine tk_yes 18 (v := ?_) rfl (by kernel_rfl) (by kernel_rfl) (by kernel_rfl) (fun _ _ _ h => h) (by kernel_rfl) (by assumption) ?_ ?_; rotate_left; (focus (intro w hSw; (try dsimp only at hSw); go_simp; (first | done | (with_reducible rfl)))); (try simp only [Act.put, List.setIfInBounds_toArray, List.set_cons_zero, List.set_cons_succ])
        refine tk_yes 19 (v := ?_) rfl (by kernel_rfl) (by kernel_rfl) (by kernel_rfl) (fun _ _ _ h => h) (by kernel_rfl) (by assumption) ?_ ?_; rotate_left; (focus (intro w hSw; (try dsimp only at hSw); go_simp; (first | done | (with_reducible rfl)))); (try simp only [Act.put, List.setIfInBounds_toArray, List.set_cons_zero, List.set_cons_succ])
        refine wpAnyH_done (by kernel_rfl) ?_ _
        go_wp2_with fail
        refine wp_region_held_drew (S := (fun W : World => W.cell? ⟨b, off + j * 2, none⟩ = some (.int .i64 s) ∧ W.cell? ⟨b, off + j * 2 + 1, none⟩ = some (.int .i64 al))) (by kernel_rfl) ?_ (fun hHeld => ?_)
        focus ((try dsimp only); exact hS.out _ (by repeat (first | assumption | refine bel_drew ?_)))
        refine tk_yes 0 (v := ?_) rfl (by kernel_rfl) (by kernel_rfl) (by kernel_rfl) (fun _ _ _ h => h) (by kernel_rfl) (by assumption) ?_ ?_; rotate_left; (focus (intro w hSw; (try dsimp only at hSw); go_simp; (first | done | (with_reducible rfl)))); (try simp only [Act.put, List.setIfInBounds_toArray, List.set_cons_zero, List.set_cons_succ])
        refine tk_yes 1 (v := ?_) rfl (by kernel_rfl) (by kernel_rfl) (by kernel_rfl) (fun _ _ _ h => h) (by kernel_rfl) (by assumption) ?_ ?_; rotate_left; (focus (intro w hSw; (try dsimp only at hSw); go_simp; (first | done | (with_reducible rfl)))); (try simp only [Act.put, List.setIfInBounds_toArray, List.set_cons_zero, List.set_cons_succ])
        refine tk_yes 2 (v := ?_) rfl (by kernel_rfl) (by kernel_rfl) (by kernel_rfl) (fun _ _ _ h => h) (by kernel_rfl) (by assumption) ?_ ?_; rotate_left; (focus (intro w hSw; (try dsimp only at hSw); go_simp; (first | done | (with_reducible rfl)))); (try simp only [Act.put, List.setIfInBounds_toArray, List.set_cons_zero, List.set_cons_succ])
        refine tk_yes 3 (v := ?_) rfl (by kernel_rfl) (by kernel_rfl) (by kernel_rfl) (fun _ _ _ h => h) (by kernel_rfl) (by assumption) ?_ ?_; rotate_left; (focus (intro w hSw; (try dsimp only at hSw); go_simp; (first | done | (with_reducible rfl)))); (try simp only [Act.put, List.setIfInBounds_toArray, List.set_cons_zero, List.set_cons_succ])
        refine tk_yes 4 (v := ?_) rfl (by kernel_rfl) (by kernel_rfl) (by kernel_rfl) (fun _ _ _ h => h) (by kernel_rfl) (by assumption) ?_ ?_; rotate_left; (focus (intro w hSw; (try dsimp only at hSw); go_simp; (first | done | (with_reducible rfl)))); (try simp only [Act.put, List.setIfInBounds_toArray, List.set_cons_zero, List.set_cons_succ])
        refine tk_yes 5 (v := ?_) rfl (by kernel_rfl) (by kernel_rfl) (by kernel_rfl) (fun _ _ _ h => h) (by kernel_rfl) (by assumption) ?_ ?_; rotate_left; (focus (intro w hSw; (try dsimp only at hSw); go_simp; (first | done | (with_reducible rfl)))); (try simp only [Act.put, List.setIfInBounds_toArray, List.set_cons_zero, List.set_cons_succ])
        refine tk_yes 6 (v := ?_) rfl (by kernel_rfl) (by kernel_rfl) (by kernel_rfl) (fun _ _ _ h => h) (by kernel_rfl) (by assumption) ?_ ?_; rotate_left; (focus (intro w hSw; (try dsimp only at hSw); go_simp; (first | done | (with_reducible rfl)))); (try simp only [Act.put, List.setIfInBounds_toArray, List.set_cons_zero, List.set_cons_succ])
        refine tk_yes 7 (v := ?_) rfl (by kernel_rfl) (by kernel_rfl) (by kernel_rfl) (fun _ _ _ h => h) (by kernel_rfl) (by assumption) ?_ ?_; rotate_left; (focus (intro w hSw; (try dsimp only at hSw); go_simp; (first | done | (with_reducible rfl)))); (try simp only [Act.put, List.setIfInBounds_toArray, List.set_cons_zero, List.set_cons_succ])
        refine tk_yes 8 (v := ?_) rfl (by kernel_rfl) (by kernel_rfl) (by kernel_rfl) (fun _ _ _ h => h) (by kernel_rfl) (by assumption) ?_ ?_; rotate_left; (focus (intro w hSw; (try dsimp only at hSw); go_simp; (first | done | (with_reducible rfl)))); (try simp only [Act.put, List.setIfInBounds_toArray, List.set_cons_zero, List.set_cons_succ])
        refine tk_yes 9 (v := ?_) rfl (by kernel_rfl) (by kernel_rfl) (by kernel_rfl) (fun _ _ _ h => h) (by kernel_rfl) (by assumption) ?_ ?_; rotate_left; (focus (intro w hSw; (try dsimp only at hSw); go_simp; (first | done | (with_reducible rfl)))); (try simp only [Act.put, List.setIfInBounds_toArray, List.set_cons_zero, List.set_cons_succ])
        refine wpAnyH_done (by kernel_rfl) ?_ _
        go_wp2_with fail
        have td := t8.out.keep (bel_drew (Below.refl w8.heap.size w8))
        go_roundw
        case rel => exact ⟨n, j + 1, k + 1, U + s, O8, _, by go_num, by omega, rfl, rfl, rfl, by omega, by omega, fun h => absurd h (by omega), by omega, by omega, td, st_same⟩
        case measure => simp [intOf]; omega
    · have hjl : j = len := by omega
      have KC := region_Chunks h0 0 b0.1 b0.2 HT.out HR.out HST.out (by rw [PG.row_len]; omega)
      replace KC := Lib.hid KC
      replace hbel := Lib.hid hbel
      go_wp2_with fail
      refine KC.out.mono ?_
      rintro e wa ⟨v, rfl, o1, c1⟩
      obtain ⟨A, c, rfl, -⟩ := o1.ints
      rw [PG.row_len]
      have CA := Lib.hid (hbel.out.trans (c1.mono hbel.out.size))
      clear o1 c1 KC
      go_wp2_with fail
      refine (KW.out _).mono ?_
      rintro e wb ⟨rfl, cb⟩
      have CB := Lib.hid (CA.out.trans (cb.mono CA.out.size))
      clear cb
      go_wp2_with fail
      exact bodyPost_ret (v := .bool true) (by simp [results, Try.results15, go_sem]) rfl ⟨rfl, CB.out⟩
theorem law40_RegionRoom (a : Option Addr) (len cap : Nat) (G : Nat → Nat → Int) (w : World) (h : Fr.IsRows w 2 a len cap G) :
    Calls Try.prog 15 #[.slice a len cap] w fun e w' => e = .returned (.bool true) ∧ Below w.heap.size w w' := by
  rcases Nat.lt_or_ge 40 len with hn | hn
  · exact law40_RegionRoom_long a len cap w (by omega)
  · refine law40_RegionRoom_some a len cap G w (by omega) (fun h0 => ?_)
    rcases h with ⟨_, rfl, _⟩ | ⟨b, off, rfl, hb, hl, hm, hc⟩
    · omega
    · exact ⟨b, off, rfl, hb h0, fun i hi => hc i (by omega)⟩
end Go.Proofs.Ytdhcmnbajkpjiaa
/-
  An opener for a slice of bytes.
-/
namespace Go.Proofs.Ytdhcmnbajkpjiaa.Fr
open Go.ChangeShapes Go.WideShapes Go.ChangeAt Go.RowKit Go.Deep

section
variable {H : Type} {enc : TypeId × Value → H} {P : Program} {w : World}
theorem open_bytes {t e : Nat} {a : Option Addr} {len cap : Nat} {d : DataW H} {ps : List MemPlace} {base : Nat} (ht : P.underlying t = some (.slice e)) (he : P.underlying e = some (.int .u8)) (hS : P.cellsOf e = 1)
    (h : DataW.Trod enc P w 0 (fun _ => true) true t (.slice a len cap) d ps) (hv : Value.okWide P w .any base t (.slice a len cap)) : ∃ xs, BytesAt w a len xs := by
  obtain ⟨fuel, hf⟩ := h
  rcases open_slice ht hf with ⟨hcs, _⟩ | ⟨x, l, c, m, n, D, Pl, hcs, hb, hl, hm, hmm, hx, hi⟩
  · simp [Value.cells] at hcs
    obtain ⟨rfl, rfl, rfl⟩ := hcs
    exact ⟨[], rfl, by omega, by simp, fun h => absurd h (by omega)⟩
  · simp [Value.cells] at hcs
    obtain ⟨rfl, rfl, rfl⟩ := hcs
    simp only [if_true] at hmm
    subst hmm
    have hsp : x.spot = none := by
      unfold Value.okWide at hv
      rw [ht] at hv
      simp only at hv
      unfold Cell.okWide at hv
      rw [ht] at hv
      simp only at hv
      unfold Cell.ok at hv
      rw [ht] at hv
      simp only at hv
      exact hv.2.2.2.1
    obtain ⟨b, off, spot⟩ := x
    simp only at hsp
    subst hsp
    have key : ∀ i, i < m → ∃ v : Int, w.cell? ⟨b, off + i, none⟩ = some (.int .u8 v) ∧ 0 ≤ v ∧ v < 256 := by
      intro i him
      obtain ⟨cs', hc, ht'⟩ := hi i him
      rw [hS] at hc
      obtain ⟨n, rfl, _, hw⟩ := DataW.trod_int he ht'
      obtain ⟨_, _, hat⟩ := World.cells?_some hc
      have hcell := hat 0 (by omega)
      refine ⟨n, ?_, ?_⟩
      · have e : w.cell? ⟨b, off + i, none⟩ = [Value.int .u8 n][0]? := by
          rw [← hcell]
          congr 1
          simp only [Addr.add]
          split <;> simp_all
        rw [e]; rfl
      · have := bounds_u8 hw
        omega
    refine ⟨(List.range len).map (fun i => match w.cell? ⟨b, off + i, none⟩ with | some (.int _ n) => n | _ => 0), by simp, by unfold maxLen at hm; omega, ?_, fun hn => ⟨b, off, rfl, ?_, ?_⟩⟩
    · intro y hy
      obtain ⟨i, hi1, rfl⟩ := List.mem_map.1 hy
      obtain ⟨v, hv', hb'⟩ := key i (by have := List.mem_range.1 hi1; omega)
      simp only [hv']
      exact hb'
    · obtain ⟨v, hv', _⟩ := key 0 (by omega)
      exact World.block_lt_of_cell? _ _ hv'
    · intro i hil
      obtain ⟨v, hv', hb'⟩ := key i (by omega)
      simp [List.getD, hil, hv']
end
end Go.Proofs.Ytdhcmnbajkpjiaa.Fr
