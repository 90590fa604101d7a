/- Part 11 of the proof of RegionStale: lemmas, each with its conditions ahead of it. -/
import Derived.Test.YtdhcmnbajkpjiaaPartRegionStale10
import Derived.Test.YtdhcmnbajkpjiaaPartRegionStale3
import Derived.Test.YtdhcmnbajkpjiaaPartRegionStale1
/-
  Layer 40 (region): Free, Len.
-/
namespace Go.Proofs.Ytdhcmnbajkpjiaa
open Go.RowKit
set_option linter.unusedVariables false
set_option linter.unusedSimpArgs false
attribute [local go_sem] drewN_alloc drewN_setCell

variable {w0 w w' : World} {tb : Nat} {O : Nat → Prop} {N : List Nat} {S : FSt} {k : Nat} {st : Int → Option (Int × List Int × Int)}
theorem TreesStep.trans {N1 N2 : List Nat} {S1 S2 : FSt} {k1 k2 : Nat} {st1 st2 : Int → Option (Int × List Int × Int)} {w1 w2 : World} (h1 : TreesStep w0 w tb O N1 S1 k1 st1 w1) (h2 : ∀ O1, TreesOver w0 w1 tb O1 N1 S1 k1 st1 → TreesStep w0 w1 tb O1 N2 S2 k2 st2 w2) : TreesStep w0 w tb O N2 S2 k2 st2 w2 := by
  obtain ⟨O1, a1, a2, a3⟩ := h1
  obtain ⟨O2, b1, b2, b3⟩ := h2 O1 a1
  have hs := a2.size
  refine ⟨O2, b1, ⟨b2.os.trans a2.os, b2.tape.trans a2.tape, b2.output.trans a2.output, Nat.le_trans hs b2.size, fun j hj hn => ?_⟩, fun j hj => ?_⟩
  · have h5 : ¬ O1 j := fun h6 => (a3 j h6).elim hn (fun h7 => by omega)
    exact (b2.block j (by omega) h5).trans (a2.block j hj hn)
  · rcases b3 j hj with h5 | h5
    · exact a3 j h5
    · exact .inr (by omega)
theorem TreesStep.before {w1 w2 : World} (hb : Below w.heap.size w w1) (h : TreesStep w0 w1 tb O N S k st w2) : TreesStep w0 w tb O N S k st w2 := by
  obtain ⟨O', a1, a2, a3⟩ := h
  exact ⟨O', a1, (Chg.of_below hb).trans a2, fun j hj => (a3 j hj).imp id (fun h5 => Nat.le_trans hb.size h5)⟩
/-- A region is taken out of the map. -/
def stDel (st : Int → Option (Int × List Int × Int)) (l : List Nat) : Int → Option (Int × List Int × Int) := fun z => if z ∈ ints l then none else st z
theorem stDel_nil (st : Int → Option (Int × List Int × Int)) : stDel st [] = st := by funext z; simp [stDel, ints]
theorem stDel_app (st : Int → Option (Int × List Int × Int)) (l : List Nat) (y : Nat) : stDel st (l ++ [y]) = fun z => if z = (y : Int) then none else stDel st l z := by
  funext z
  unfold stDel ints
  by_cases h : z = (y : Int)
  · subst h; simp
  · simp [h]
theorem TreesAt.del {mb Fb y : Nat} {own : Nat → Prop} {f f' : Int → Option Value} (h : TreesAt w0 w tb mb Fb own S k f st) (hm : RMapAt w' mb k f') (hc : Chg (fun j => j = mb) w w')
    (hf : f' = fun z => if z = (y : Int) then none else f z) :
    TreesAt w0 w' tb mb Fb own S k f' (fun z => if z = (y : Int) then none else st z) := by
  refine ⟨h.row.of_block (hc.block tb h.row.lt (fun e => h.far.1 e)), hm, h.forest.of_own (fun j hj => hc.block j (h.forest.fresh j hj).2 (fun e => h.far.2.2.1 (by rw [← e]; exact hj))) hc.size (h.forest.below.trans (hc.below h.forest.below.size (fun j e => by rw [e]; exact h.far.2.2.2.2))), h.far, fun z => ?_⟩
  subst hf
  by_cases hx : z = (y : Int)
  · exact .inl ⟨by simp [hx], by simp [hx]⟩
  · rcases h.vals z with ⟨h1, h2⟩ | ⟨c', v', l', cur', e1, e2, e3, e4⟩
    · exact .inl ⟨by simp [hx, h1], by simp [hx, h2]⟩
    · exact .inr ⟨c', v', l', cur', by simp [hx, e1], by simp [hx, e2], e3.of_chg hc (fun j e e5 => (e4 j e).2.1 e5), e4⟩
/-- One round of Free. -/
theorem free_round (y : Nat) (h : TreesOver w0 w tb O N S k st) (hy : y < 4096) (hok : dropOk S.O S.R (y : Int) = true) :
    ∃ mb Fb w3, w.cell? ⟨tb, 1, none⟩ = some (.map (some mb)) ∧ (Builtin.delete_ #[118, 3] 0 #[.map (some mb), .int .i64 (y : Int)]).run Try.prog w = .ok (.tuple #[]) w3 ∧ w3.cell? ⟨tb, 0, none⟩ = some (.pointer (some ⟨Fb, 0, none⟩)) ∧
      Calls Try.prog 39 #[.pointer (some ⟨Fb, 0, none⟩), .int .i64 (y : Int)] w3 fun e w' => e = .returned (.bool true) ∧ TreesStep w0 w tb O (PC.cut N y) (S.drop 4096 (y : Int)) k (fun z => if z = (y : Int) then none else st z) w' := by
  obtain ⟨mb, Fb, own, f, h0, h1, h2, h3, h4⟩ := h.ex
  obtain ⟨w3, hrun, hm, hg⟩ := h0.map.del (y : Int) ⟨by omega, by omega⟩ 0
  have hc : Chg (fun j => j = mb) w w3 := Chg.of_grown hg (fun j e => (Option.some.inj e).symm)
  have t3 := h0.del (y := y) hm hc rfl
  have KD := overf_Drop (y : Int) t3.forest
  rw [hok] at KD
  refine ⟨mb, Fb, w3, (h0.row.cell 1).trans rfl, hrun, (t3.row.cell 0).trans rfl, KD.mono ?_⟩
  rintro e w4 ⟨rfl, s4⟩
  refine ⟨rfl, ?_⟩
  obtain ⟨own', t4, c4, n4⟩ := t3.forest_step s4
  refine h.step (mb := mb) (Fb := Fb) (own := own') ((hc.mono (fun j _ hj => by rw [hj]; exact h2)).trans (c4.mono (fun j _ hj => h3 j hj))) t4 h1 (.inl h2) (fun j hj => (n4 j hj).imp (h3 j) (fun h9 => Nat.le_trans hc.size h9)) (fun x c' v cur e j hj => ?_) (h.ord.drop h0.forest.fi h.rel hok) (h.rel.drop h0.forest.fi hok)
  split at e
  · cases e
  · exact .inl (h4 x c' v cur e j hj)
def FreeRel (w0 w2 : World) (tb : Nat) (O : Nat → Prop) (N : List Nat) (S : FSt) (k : Nat) (st : Int → Option (Int × List Int × Int)) (P : List Nat) (i : Value) (wr : World) : Prop :=
  ∃ j : Nat, i = .int .i64 (j : Int) ∧ j ≤ P.length ∧ TreesStep w0 w2 tb O (cutsN N (P.take j)) (dropsS S (P.take j)) k (stDel st (P.take j)) wr
def FreedReg (w0 : World) (tb : Nat) (O : Nat → Prop) (N : List Nat) (S : FSt) (k : Nat) (st : Int → Option (Int × List Int × Int)) (q : Nat) (w : World) (e : Ending) (w' : World) : Prop :=
  ∃ v, e = .returned (.tuple #[v, .int .i64 0]) ∧ OwnI w.heap.size w' v (underV N S st q) ∧ TreesStep w0 w tb O (cutsN N (postW N S.up (q : Int))) (dropsS S (postW N S.up (q : Int))) k (stDel st (postW N S.up (q : Int))) w'
set_option maxRecDepth 100000 in
set_option maxHeartbeats 4000000 in
theorem region_Free_no (r e0 : Int) (hl : -9223372036854775808 ≤ r) (hm : r ≤ 9223372036854775807) (he : e0 ≠ 0) (h : TreesOver w0 w tb O N S k st) (hr : findV S r = (0, e0)) :
    Calls Try.prog 97 #[.pointer (some ⟨tb, 0, none⟩), .int .i64 r] w fun e w' => e = .returned (.tuple #[.slice none 0 0, .int .i64 e0]) ∧ Below w.heap.size w w' := by
  have K1 := Lib.hid (region_Under_no r e0 hl hm he h hr)
  have g1 : (e0 != 0) = true := by simpa using he
  clear h hr
  go_enter Try.func97, Try.ntmps97
  go_wp2_with fail
  refine K1.out.mono ?_
  rintro e w1 ⟨rfl, b1⟩
  go_wp2_with fail
  exact bodyPost_ret (v := .tuple #[.slice none 0 0, .int .i64 e0]) (by simp [results, Try.results97, go_sem]) rfl ⟨rfl, b1⟩
set_option maxRecDepth 100000 in
set_option maxHeartbeats 16000000 in
theorem region_Free (r : Int) (q : Nat) (hl : -9223372036854775808 ≤ r) (hm : r ≤ 9223372036854775807) (h : TreesOver w0 w tb O N S k st) (hr : findV S r = ((q : Int), 0)) (hall : ∀ x ∈ N, ∃ c l cur, st (x : Int) = some (c, l, cur)) (hlen : (underV N S st q).length ≤ 100000) :
    Calls Try.prog 97 #[.pointer (some ⟨tb, 0, none⟩), .int .i64 r] w (FreedReg w0 tb O N S k st q w) := by
  have K1 := Lib.hid (region_Under r q hl hm h hr hall hlen)
  have KF : Hid (∀ W, Below w.heap.size w W → Calls Try.prog 145 #[.pointer (some ⟨tb, 0, none⟩), .int .i64 r] W fun e w' => e = .returned (.tuple #[.int .i64 (q : Int), .int .i64 0]) ∧ Below W.heap.size W w') := Lib.hid (fun W hW => by
    obtain ⟨mb, Fb, own, f, h0, _⟩ := (h.keep hW).ex
    have := region_find r hl hm h0
    rw [hr] at this
    exact this)
  have KP : Hid (∀ W, Below w.heap.size w W → ∃ Fb, W.cell? ⟨tb, 0, none⟩ = some (.pointer (some ⟨Fb, 0, none⟩)) ∧ Calls Try.prog 74 #[.pointer (some ⟨Fb, 0, none⟩), .int .i64 (q : Int)] W (GivesOwnI W (ints (postW N S.up (q : Int))))) := Lib.hid (fun W hW => by
    obtain ⟨mb, Fb, own, f, h0, _⟩ := (h.keep hW).ex
    exact ⟨Fb, (h0.row.cell 0).trans rfl, walk_PostO (q : Int) h.ord h.rel h0.forest⟩)
  unfold FreedReg
  obtain ⟨U, hU⟩ : ∃ U, underV N S st q = U := ⟨_, rfl⟩
  rw [hU] at K1 ⊢
  have HORD := Lib.hid h.ord
  have hN4 : ∀ x ∈ N, x < 4096 := fun x hx => by
    obtain ⟨mb, Fb, own, f, h0, _⟩ := h.ex
    exact h0.forest.fi.lt ((h.rel.mem x).1 hx)
  have HP4 : Hid ((postW N S.up (q : Int)).length ≤ 4096) := Lib.hid (nodup_lt 4096 _ (postW_nodup h.ord _) (fun x hx => hN4 x (preW_in h.ord _ ((postW_mem h.ord _ x).1 hx))))
  have HPy : Hid (∀ y ∈ postW N S.up (q : Int), y < 4096) := Lib.hid (fun x hx => hN4 x (preW_in h.ord _ ((postW_mem h.ord _ x).1 hx)))
  have HOK : Hid (∀ j y : Nat, (postW N S.up (q : Int))[j]? = some y → NRel 4096 (dropsS S ((postW N S.up (q : Int)).take j)) (cutsN N ((postW N S.up (q : Int)).take j)) → dropOk (dropsS S ((postW N S.up (q : Int)).take j)).O (dropsS S ((postW N S.up (q : Int)).take j)).R (y : Int) = true) :=
    Lib.hid (fun j y hj hn => drop_ok h.ord (q : Int) hj hn (hN4 y (preW_in h.ord _ ((postW_mem h.ord _ y).1 (List.mem_of_getElem? hj)))))
  have H := Lib.hid h
  clear h hr hall hlen hU hN4
  obtain ⟨P, hP⟩ : ∃ P, postW N S.up (q : Int) = P := ⟨_, rfl⟩
  rw [hP] at KP HP4 HPy HOK ⊢
  clear hP
  go_enter Try.func97, Try.ntmps97
  go_wp2_with fail
  refine K1.out.mono ?_
  rintro e wa ⟨v1, rfl, o1, b1⟩
  have O1 := Lib.hid o1
  have B1 := Lib.hid b1
  clear o1 b1
  go_wp2_with fail
  refine (KF.out wa B1.out).mono ?_
  rintro e wb ⟨rfl, b2⟩
  obtain ⟨Fb, d0, KPb⟩ := KP.out wb (bel_trans B1.out b2)
  have KPB := Lib.hid KPb
  have B2 := Lib.hid b2
  clear b2 KPb
  go_wp2_with fail
  refine KPB.out.mono ?_
  rintro e w2 ⟨v2, rfl, o2, b3⟩
  obtain ⟨PA, pc, rfl, pi, _⟩ := o2.ints
  have hpb : ∀ g off, PA = some ⟨g, off, none⟩ → wb.heap.size ≤ g ∧ g < w2.heap.size := fun g off e => by
    subst e
    exact o2.ltB g rfl
  rw [ints_len] at pi ⊢
  have bw2 : Below w.heap.size w w2 := bel_trans (bel_trans B1.out B2.out) b3
  have sz2 : w.heap.size ≤ wb.heap.size := (bel_trans B1.out B2.out).size
  have O12 := Lib.hid ((O1.out.keep B2.out).keep b3)
  have HB2 := Lib.hid bw2
  have PI := Lib.hid pi
  have HPB := Lib.hid hpb
  clear o2 b3 d0 pi hpb bw2
  obtain ⟨m, hm⟩ : ∃ m, P.length = m := ⟨_, rfl⟩
  rw [hm]
  have HM := Lib.hid hm
  clear hm
  go_wp2_with fail
  go_loopw [34] (fun i wr => FreeRel w0 w2 tb O N S k st P i wr) (fun i _ => m - (intOf i).toNat)
  case atStart => exact ⟨0, rfl, Nat.zero_le _, by rw [List.take_zero, stDel_nil]; exact (H.out.keep HB2.out).same (Below.refl _ _)⟩
  case round =>
    obtain ⟨j, rfl, hj, hs⟩ := hrel
    rw [HM.out] at hj
    by_cases hlt : (j : Int) < m
    · have hjm : j < m := by omega
      obtain ⟨y, ey⟩ : ∃ y, P[j]? = some y := ⟨_, List.getElem?_eq_getElem (by rw [HM.out]; exact hjm)⟩
      have hy4 := HPy.out y (List.mem_of_getElem? ey)
      obtain ⟨g, off, e, hg, hx⟩ := PI.out.2.2 (by rw [HM.out]; omega)
      have x0 := hx j (by rw [HM.out]; exact hjm)
      rw [show (ints P).getD j 0 = (y : Int) by simp [ints, List.getD, ey]] at x0
      have hgb := HPB.out g off e
      subst e
      obtain ⟨Or, t1, c1, n1⟩ := hs
      have y0 : wr.cell? ⟨g, off + j, none⟩ = some (.int .i64 (y : Int)) := (World.cell?_of_block (c1.block g hg (fun hO => by have := (H.out.fresh g hO).2; omega))).trans x0
      obtain ⟨mb, Fb', w3, m1, hrun, m3, KD⟩ := free_round y t1 hy4 (HOK.out j y ey t1.rel)
      have HS : Hid (∀ w4, TreesStep w0 wr tb Or (PC.cut (cutsN N (P.take j)) y) ((dropsS S (P.take j)).drop 4096 (y : Int)) k (fun z => if z = (y : Int) then none else stDel st (P.take j) z) w4 → TreesStep w0 w2 tb O (cutsN N (P.take (j + 1))) (dropsS S (P.take (j + 1))) k (stDel st (P.take (j + 1))) w4) := Lib.hid (fun w4 h4 => by
        have e1 : P.take (j + 1) = P.take j ++ [y] := by rw [List.take_add_one, ey]; rfl
        rw [e1, cutsN_app, dropsS_app, stDel_app, cutsN_one, dropsS_one]
        obtain ⟨O', a1, a2, a3⟩ := h4
        have hs := c1.size
        refine ⟨O', a1, ⟨a2.os.trans c1.os, a2.tape.trans c1.tape, a2.output.trans c1.output, Nat.le_trans hs a2.size, fun i hi hn => ?_⟩, fun i hi => ?_⟩
        · have h5 : ¬ Or i := fun h6 => (n1 i h6).elim hn (fun h7 => by omega)
          exact (a2.block i (by omega) h5).trans (c1.block i hi hn)
        · rcases a3 i hi with h5 | h5
          · exact n1 i h5
          · exact .inr (by omega))
      have i0 : (0 : Int) ≤ (j : Int) := by omega
      have jb : j < 4096 := by have := HP4.out; have := HM.out; omega
      replace KD := Lib.hid KD
      clear t1 c1 n1 hx x0 ey hgb
      go_wp2_with fail
      refine KD.out.mono ?_
      rintro e w4 ⟨rfl, s4⟩
      have s5 := Lib.hid (HS.out w4 s4)
      clear s4 HS hrun m1 m3 y0
      go_wp2_with fail
      go_roundw
      case rel => exact ⟨j + 1, by go_num, by rw [HM.out]; omega, s5.out⟩
      case measure => simp [intOf]; omega
    · have hjm : j = m := by omega
      subst hjm
      rw [List.take_of_length_le (by rw [HM.out]; exact Nat.le_refl _)] at hs
      have HS := Lib.hid hs
      clear hs
      go_wp2_with fail
      refine bodyPost_ret (v := .tuple #[v1, .int .i64 0]) (by simp [results, Try.results97, go_sem]) rfl ⟨v1, rfl, ?_, TreesStep.before HB2.out HS.out⟩
      obtain ⟨Or, t1, c1, n1⟩ := HS.out
      exact O12.out.of_chg c1 (fun i e hO => by
        have h1 := (H.out.fresh i hO).2
        have h2 := (O12.out.ltB i e).1
        omega)
set_option maxRecDepth 100000 in
set_option maxHeartbeats 4000000 in
theorem region_Len (h : TreesOver w0 w tb O N S k st) :
    Calls Try.prog 98 #[.pointer (some ⟨tb, 0, none⟩)] w fun e w' => e = .returned (.int .i64 (N.length : Nat)) ∧ Below w.heap.size w w' := by
  obtain ⟨mb, Fb, own, f, h0, h1, h2, h3, h4⟩ := h.ex
  have K1 := Lib.hid (region_is h0)
  have K2 := overf_Len h0.forest
  have el : S.O.length = N.length := by
    have p1 : S.O.Perm N := (List.perm_ext_iff_of_nodup h0.forest.fi.s.o1 h.rel.nd).2 (fun x => (h.rel.mem x).symm)
    exact p1.length_eq
  rw [el] at K2
  replace K2 := Lib.hid K2
  have d0 : w.cell? ⟨tb, 0, none⟩ = some (.pointer (some ⟨Fb, 0, none⟩)) := (h0.row.cell 0).trans rfl
  generalize N.length = n at *
  clear h h0 h1 h2 h3 h4 el
  go_enter Try.func98, Try.ntmps98
  go_wp2_with fail
  refine K1.out.mono ?_
  rintro e w1 ⟨rfl, rfl⟩
  go_wp2_with fail
  refine K2.out.mono ?_
  rintro e w1 ⟨rfl, rfl⟩
  go_wp2_with fail
  exact bodyPost_ret (v := .int .i64 (n : Int)) (by simp [results, Try.results98, go_sem]) rfl ⟨rfl, (by repeat (first | exact Below.refl _ _ | assumption | refine bel_drew ?_ | refine bel_drewN ?_ _ | refine bel_alloc ?_ _ | refine bel_set ?_ (by first | (dsimp only; omega) | (simp; done) | (simp; omega)) _ | refine bel_trans ?_ (by assumption)))⟩
end Go.Proofs.Ytdhcmnbajkpjiaa
/-
  A forest of which nothing was dropped: the places come one behind the other; handles.
-/
namespace Go.Proofs.Ytdhcmnbajkpjiaa
open Go.RowKit
set_option linter.unusedVariables false
set_option linter.unusedSimpArgs false

structure Fresh (m : Nat) (S : FSt) (N : List Nat) : Prop where
  cl : S.cl = []
  fr : S.fr = m
  g : S.g = List.replicate 4096 0
  o : ∀ x, x ∈ S.O ↔ x < m
  n : N = List.range m
theorem Fresh.new : Fresh 0 (FSt.new 4096) [] := ⟨rfl, rfl, rfl, fun x => ⟨fun h => absurd (show x ∈ ([] : List Nat) from h) (by simp), fun h => absurd h (by omega)⟩, rfl⟩
variable {m : Nat} {S : FSt} {N : List Nat}
theorem Fresh.pick (h : Fresh m S N) (hm : m < 4096) : pickP S.cl S.fr 4096 = some (m, [], m + 1) := by
  unfold pickP
  rw [h.cl, h.fr, if_neg (by simp), if_pos hm]
theorem Fresh.add (h : Fresh m S N) (hm : m < 4096) (i : Nat) (q : Int) : Fresh (m + 1) (S.add 4096 i q) (N ++ [m]) := by
  unfold FSt.add
  rw [h.pick hm]
  refine ⟨rfl, rfl, h.g, fun x => ?_, ?_⟩
  · show x ∈ m :: S.O ↔ _
    rw [List.mem_cons, h.o]
    omega
  · rw [h.n, List.range_succ]
theorem Fresh.gen (h : Fresh m S N) (p : Nat) : S.g.getD p 0 = 0 := by
  rw [h.g]
  simp only [List.getD, List.getElem?_replicate]
  split <;> rfl
/-- The handle of a place's first region. -/
def hnd (p : Nat) : Int := (PH.put 2 (p : Int) 0 0).1
theorem hnd_ok {p : Nat} (hp : p < 4096) : (PH.put 2 (p : Int) 0 0).2 = 0 := by
  rw [PH.put_good (by omega) (by omega) ⟨by omega, by omega⟩ (by omega) (by omega)]
theorem hnd_bd (p : Nat) : -9223372036854775808 ≤ hnd p ∧ hnd p ≤ 9223372036854775807 := by
  have := PH.put_range 2 (p : Int) 0 0
  unfold hnd
  omega
theorem hnd_get {p : Nat} (hp : p < 4096) : PH.get (hnd p) = ((2, (p : Int), 0, 0), true) := (PH.get_put (hnd_ok hp)).1
theorem hnd_find {p : Nat} (hp : p < 4096) (S : FSt) : findV S (hnd p) = if rightB S.O S.g (p : Int) 0 = false then (0, 4) else ((p : Int), 0) := by
  unfold findV
  rw [hnd_get hp, if_neg (by simp)]
theorem hnd_inj {p q : Nat} (hp : p < 4096) (hq : q < 4096) (h : hnd p = hnd q) : p = q := by
  have := ((PH.put_inj (hnd_ok hp) (hnd_ok hq)).1 h).2.1
  omega
theorem Fresh.find (h : Fresh m S N) {p : Nat} (hp : p < m) (hm : m ≤ 4096) : findV S (hnd p) = ((p : Int), 0) := by
  rw [hnd_find (by omega)]
  have e : rightB S.O S.g (p : Int) 0 = true := by
    unfold rightB
    rw [Bool.and_eq_true, decide_eq_true_eq, decide_eq_true_eq]
    exact ⟨in_ints.2 ((h.o p).2 hp), by rw [show ((p : Int)).toNat = p by omega]; exact h.gen p⟩
  rw [e, if_neg (by simp)]
/-- Behind a free: what was dropped is stale, the rest is found. -/
theorem Fresh.gone (h : Fresh m S N) (hm : m ≤ 4096) {P : List Nat} (hr : NRel 4096 (dropsS S P) (cutsN N P)) {p : Nat} (hp : p < m) :
    findV (dropsS S P) (hnd p) = if p ∈ P then (0, 4) else ((p : Int), 0) := by
  rw [hnd_find (by omega)]
  have hnd : N.Nodup := by rw [h.n]; exact List.nodup_range
  have hO : p ∈ (dropsS S P).O ↔ p ∉ P := by
    rw [← hr.mem, cutsN_mem _ _ _ hnd, h.n, List.mem_range]
    exact ⟨fun h => h.2, fun h => ⟨hp, h⟩⟩
  by_cases hP : p ∈ P
  · have e : rightB (dropsS S P).O (dropsS S P).g (p : Int) 0 = false := by
      unfold rightB
      rw [Bool.and_eq_false_iff, decide_eq_false_iff_not]
      exact .inl (fun h2 => (hO.1 (in_ints.1 h2)) hP)
    rw [e, if_pos rfl, if_pos hP]
  · have e : rightB (dropsS S P).O (dropsS S P).g (p : Int) 0 = true := by
      unfold rightB
      rw [Bool.and_eq_true, decide_eq_true_eq, decide_eq_true_eq]
      exact ⟨in_ints.2 (hO.2 hP), by rw [show ((p : Int)).toNat = p by omega, dropsS_g _ _ _ hP]; exact h.gen p⟩
    rw [e, if_neg (by simp), if_neg hP]
/-- What New's regions are behind Root and Child. -/
def MadeF (w0 : World) (tb : Nat) (O : Nat → Prop) (N : List Nat) (S : FSt) (k : Nat) (st : Int → Option (Int × List Int × Int)) (m i : Nat) (q : Int) (c : Int) (w : World) (e : Ending) (w' : World) : Prop :=
  e = .returned (.tuple #[.int .i64 (hnd m), .int .i64 0]) ∧ TreesStep w0 w tb O (N ++ [m]) (S.add 4096 i q) (k + 1) (stNew st m c) w'
theorem made_F {w0 : World} {tb : Nat} {O : Nat → Prop} {k : Nat} {st : Int → Option (Int × List Int × Int)} {i : Nat} {q c : Int} {w : World} {e : Ending} {w' : World} (h : Fresh m S N) (hm : m < 4096) (hd : MadeReg w0 tb O N S k st i q m c w e w') :
    MadeF w0 tb O N S k st m i q c w e w' := by
  obtain ⟨e1, s1⟩ := hd
  rw [h.gen, hnd_ok hm] at e1
  exact ⟨e1, s1⟩
theorem works_pre : preW [0, 1] (((FSt.new 4096).add 4096 4096 (-1)).add 4096 0 ((0 : Nat) : Int)).up ((0 : Nat) : Int) = [0, 1] := by decide +kernel
theorem works_post : postW [0, 1] (((FSt.new 4096).add 4096 4096 (-1)).add 4096 0 ((0 : Nat) : Int)).up ((0 : Nat) : Int) = [1, 0] := by decide +kernel
theorem works_lay : PG.lay [6] 0 8 8 64 = ([6], 8, 6, 0, 0) := by decide +kernel
end Go.Proofs.Ytdhcmnbajkpjiaa
/-
  Layer 40 (region): the chapter's example.
-/
namespace Go.Proofs.Ytdhcmnbajkpjiaa
open Go.RowKit
set_option linter.unusedVariables false
set_option linter.unusedSimpArgs false
attribute [local go_sem] drewN_alloc drewN_setCell

theorem TreesOver.below {w0 w : World} {tb : Nat} {O : Nat → Prop} {N : List Nat} {S : FSt} {k : Nat} {st : Int → Option (Int × List Int × Int)} (h : TreesOver w0 w tb O N S k st) : Below w0.heap.size w0 w := by
  obtain ⟨mb, Fb, own, f, h0, _⟩ := h.ex
  exact h0.forest.below
theorem works_state : ∃ S1 S2, Fresh 1 S1 [0] ∧ (FSt.new 4096).add 4096 4096 (-1) = S1 ∧ S1.add 4096 0 ((0 : Nat) : Int) = S2 ∧ Fresh 2 S2 [0, 1] ∧ preW [0, 1] S2.up ((0 : Nat) : Int) = [0, 1] ∧ postW [0, 1] S2.up ((0 : Nat) : Int) = [1, 0] :=
  ⟨_, _, Fresh.new.add (by omega) _ _, rfl, rfl, (Fresh.new.add (by omega) _ _).add (by omega) _ _, works_pre, works_post⟩
set_option maxRecDepth 100000 in
set_option maxHeartbeats 16000000 in
theorem law40_works (w : World) : Calls Try.prog 89 #[] w fun e w' => e = .returned (.bool true) ∧ Below w.heap.size w w' := by
  have K0 := Lib.hid (region_New w)
  obtain ⟨S1, S2, F1, e1, e2, F2, hpre, hpost⟩ := works_state
  have HF1 := Lib.hid F1
  have HF2 := Lib.hid F2
  have HE1 := Lib.hid e1
  have HE2 := Lib.hid e2
  have HPRE := Lib.hid hpre
  have HPOST := Lib.hid hpost
  clear F1 F2 e1 e2 hpre hpost
  have b0 := hnd_bd 0
  have b1 := hnd_bd 1
  go_enter Try.func89, Try.ntmps89
  go_wp2_with fail
  refine K0.out.mono ?_
  intro e w1 hd
  obtain ⟨tb, O, rfl, t1, -⟩ := TreesOver.new hd
  have K1 := Lib.hid ((region_Root 3 ⟨by omega, by omega⟩ (by omega) t1 (Fresh.new.pick (by omega))).mono fun e w' hh => made_F Fresh.new (by omega) hh)
  clear t1 hd
  go_wp2_with fail
  refine K1.out.mono ?_
  rintro e w2 ⟨rfl, O2, t2, -, -⟩
  rw [HE1.out] at t2
  have K2 := Lib.hid ((region_Child (hnd 0) 0 (c := 3) (l := []) (cur := 0) b0.1 b0.2 (by omega) t2 (HF1.out.find (by omega) (by omega)) (by simp [stNew]) (HF1.out.pick (by omega))).mono fun e w' hh => made_F HF1.out (by omega) hh)
  clear t2 K1
  go_wp2_with fail
  refine K2.out.mono ?_
  rintro e w3 ⟨rfl, O3, t3, -, -⟩
  rw [HE2.out] at t3
  have K3 := region_Add (hnd 0) 5 0 (c := 3) (l := []) (cur := 0) b0.1 b0.2 (by omega) t3 (HF2.out.find (by omega) (by omega)) (by simp [stNew]) (by simp) (by decide)
  rw [show PG.add [] 0 5 = ([5], 0) by decide] at K3
  replace K3 := Lib.hid K3
  clear t3 K2
  go_wp2_with fail
  refine K3.out.mono ?_
  rintro e w4 ⟨rfl, O4, t4, -, -⟩
  have K4 := region_Add (hnd 1) 6 1 (c := 3) (l := []) (cur := 0) b1.1 b1.2 (by omega) t4 (HF2.out.find (by omega) (by omega)) (by simp [stNew, stSet]) (by simp) (by decide)
  rw [show PG.add [] 0 6 = ([6], 0) by decide] at K4
  replace K4 := Lib.hid K4
  clear t4 K3
  go_wp2_with fail
  refine K4.out.mono ?_
  rintro e w5 ⟨rfl, O5, t5, -, -⟩
  have K5 := region_Add_twice (hnd 1) 6 1 (c := 3) (l := [6]) (cur := 0) b1.1 b1.2 (by omega) t5 (HF2.out.find (by omega) (by omega)) (by simp [stNew, stSet]) (by simp) (by decide)
  rw [show PG.add [6] 0 6 = ([], 19) by decide] at K5
  replace K5 := Lib.hid K5
  replace t5 := Lib.hid t5
  clear K4
  go_wp2_with fail
  refine K5.out.mono ?_
  rintro e w6 ⟨rfl, c6⟩
  have t6 := t5.out.keep c6
  have K6 := region_Lay (hnd 1) 8 8 1 (c := 3) (l := [6]) (cur := 0) b1.1 b1.2 (by omega) t6 (HF2.out.find (by omega) (by omega)) (by simp [stNew, stSet]) (by simp) ⟨by omega, by omega⟩ ⟨by omega, by omega⟩ ⟨by omega, by omega⟩ (by rw [works_lay])
  rw [works_lay] at K6
  replace K6 := Lib.hid K6
  clear K5 t5 t6 c6
  dsimp only
  go_wp2_with fail
  refine K6.out.mono ?_
  rintro e w7 ⟨rfl, O7, t7, -, -⟩
  have hU : ∀ st, underV ([0] ++ [1]) S2 st 0 = chunksOf st 0 ++ chunksOf st 1 := fun st => by
    unfold underV
    show (preW [0, 1] S2.up ((0 : Nat) : Int)).flatMap _ = _
    rw [HPRE.out]
    simp
  have hl : underV ([0] ++ [1]) S2 (stSet (stSet (stSet (stNew (stNew (fun _ => none) ((0 : Nat) : Int) 3) ((1 : Nat) : Int) 3) ((0 : Nat) : Int) 3 [5] 0) ((1 : Nat) : Int) 3 [6] 0) ((1 : Nat) : Int) 3 [6] 8) 0 = [5, 6] := by
    rw [hU]; rfl
  have K7 := region_Free (hnd 0) 0 b0.1 b0.2 t7 (HF2.out.find (by omega) (by omega)) (fun x hx => by
    have hx' : x = 0 ∨ x = 1 := by simpa using hx
    rcases hx' with rfl | rfl
    · exact ⟨3, [5], 0, rfl⟩
    · exact ⟨3, [6], 8, rfl⟩) (by rw [hl]; decide)
  unfold FreedReg at K7
  rw [hl] at K7
  replace K7 := Lib.hid K7
  clear K6 t7 hU hl
  dsimp only
  go_wp2_with fail
  refine K7.out.mono ?_
  rintro e w8 ⟨v, rfl, o8, O8, t8, -, -⟩
  obtain ⟨A, c, rfl, i8, -⟩ := o8.ints
  have e8 : cutsN ([0] ++ [1]) (postW ([0] ++ [1]) S2.up ((0 : Nat) : Int)) = [] := by
    show cutsN [0, 1] (postW [0, 1] S2.up ((0 : Nat) : Int)) = []
    rw [HPOST.out]; rfl
  have hg := HF2.out.gone (by omega) t8.rel (p := 1) (by omega)
  rw [if_pos (by show 1 ∈ postW [0, 1] S2.up ((0 : Nat) : Int); rw [HPOST.out]; simp)] at hg
  have K8 := Lib.hid (region_Child_no (hnd 1) 4 b1.1 b1.2 (by omega) t8 hg)
  rw [e8] at t8
  have T8 := Lib.hid t8
  have I8 := Lib.hid i8
  clear t8 o8 i8 e8 hg K7
  go_wp2_with fail
  refine K8.out.mono ?_
  rintro e w9 ⟨rfl, c9⟩
  have C9 := Lib.hid c9
  clear c9 K8
  have hy : ∀ W : World, IntsAt (W.alloc (.cells #[.int .i64 5, .int .i64 6] 3)) (some ⟨W.heap.size, 0, none⟩) 2 [5, 6] := fun W => by
    have r : RowR (W.alloc (.cells #[.int .i64 5, .int .i64 6] 3)) W.heap.size 3 [.int .i64 5, .int .i64 6] := RowR.new W _ _
    refine ⟨rfl, by omega, fun _ => ⟨W.heap.size, 0, rfl, by simp, fun i hi => ?_⟩⟩
    have hi' : i = 0 ∨ i = 1 := by omega
    rcases hi' with rfl | rfl
    · exact (r.cell 0).trans rfl
    · exact (r.cell 1).trans rfl
  have KS : Hid (Calls Try.prog 45 #[.slice A 2 c, .slice (some ⟨w9.heap.size, 0, none⟩) 2 2] (w9.alloc (.cells #[.int .i64 5, .int .i64 6] 3)) fun e w' => e = .returned (.bool true) ∧ Below (w9.alloc (.cells #[.int .i64 5, .int .i64 6] 3)).heap.size (w9.alloc (.cells #[.int .i64 5, .int .i64 6] 3)) w') := Lib.hid (by
    have := base_SameInts c 2 ((I8.out.keep C9.out).keep (bel_alloc (Below.refl w9.heap.size w9) _)) (hy w9)
    rw [decide_eq_true rfl] at this
    exact this)
  clear hy
  simp only [List.length_cons, List.length_nil]
  go_wp2_with fail
  refine KS.out.mono ?_
  rintro e wa ⟨rfl, ca⟩
  have ta := T8.out.keep (bel_trans C9.out (bel_trans (bel_alloc (Below.refl w9.heap.size w9) _) ca))
  have KL := Lib.hid (region_Len ta)
  have TA := Lib.hid ta.below
  clear ca ta KS
  go_wp2_with fail
  refine KL.out.mono ?_
  rintro e wb ⟨rfl, cb⟩
  have CB := Lib.hid (bel_trans TA.out cb)
  clear cb KL
  go_wp2_with fail
  exact bodyPost_ret (v := .bool true) (by simp [results, Try.results89, go_sem]) rfl ⟨rfl, CB.out⟩
end Go.Proofs.Ytdhcmnbajkpjiaa
/-
  Layer 40 (region): regions that New did not give have none.
-/
namespace Go.Proofs.Ytdhcmnbajkpjiaa
open Go.RowKit
open Go.Op
set_option linter.unusedVariables false
set_option linter.unusedSimpArgs false
attribute [local go_sem] drewN_alloc drewN_setCell

/-- No regions: nil, or the zero value. -/
def NoT (w : World) (A : Option Addr) : Prop := A = none ∨ ∃ Z, A = some ⟨Z, 0, none⟩ ∧ w.cell? ⟨Z, 1, none⟩ = some (.map none)
theorem map_none_nil (w : World) : (binOp BinOp.neq 118 (.map none) (.map none)).run Try.prog w = .ok (.bool false) w := by kernel_rfl
set_option maxRecDepth 100000 in
theorem not_is {w : World} {A : Option Addr} (h : NoT w A) : Calls Try.prog 143 #[.pointer A] w fun e w' => e = .returned (.bool false) ∧ w = w' := by
  have HN := map_none_nil
  rcases h with rfl | ⟨Z, rfl, c1⟩
  · go_enter Try.func143, Try.ntmps143
    go_wp2_with fail
    exact bodyPost_ret (v := .bool false) (by simp [results, Try.results143, go_sem]) rfl ⟨rfl, rfl⟩
  · go_enter Try.func143, Try.ntmps143
    go_wp2_with fail
    exact bodyPost_ret (v := .bool false) (by simp [results, Try.results143, go_sem]) rfl ⟨rfl, rfl⟩
set_option maxRecDepth 100000 in
theorem not_Root (c : Int) {w : World} {A : Option Addr} (h : NoT w A) : Calls Try.prog 91 #[.pointer A, .int .i64 c] w fun e w' => e = .returned (.tuple #[.int .i64 0, .int .i64 16]) ∧ w = w' := by
  have K := Lib.hid (not_is h)
  clear h
  go_enter Try.func91, Try.ntmps91
  go_wp2_with fail
  refine K.out.mono ?_
  rintro e w1 ⟨rfl, rfl⟩
  go_wp2_with fail
  exact bodyPost_ret (v := .tuple #[.int .i64 0, .int .i64 16]) (by simp [results, Try.results91, go_sem]) rfl ⟨rfl, rfl⟩
set_option maxRecDepth 100000 in
theorem not_find (r : Int) {w : World} {A : Option Addr} (h : NoT w A) : Calls Try.prog 145 #[.pointer A, .int .i64 r] w fun e w' => e = .returned (.tuple #[.int .i64 0, .int .i64 16]) ∧ w = w' := by
  have K := Lib.hid (not_is h)
  clear h
  go_enter Try.func145, Try.ntmps145
  go_wp2_with fail
  refine K.out.mono ?_
  rintro e w1 ⟨rfl, rfl⟩
  go_wp2_with fail
  exact bodyPost_ret (v := .tuple #[.int .i64 0, .int .i64 16]) (by simp [results, Try.results145, go_sem]) rfl ⟨rfl, rfl⟩
set_option maxRecDepth 100000 in
theorem not_Child (r : Int) {w : World} {A : Option Addr} (h : NoT w A) : Calls Try.prog 95 #[.pointer A, .int .i64 r] w fun e w' => e = .returned (.tuple #[.int .i64 0, .int .i64 16]) ∧ w = w' := by
  have K := Lib.hid (not_find r h)
  clear h
  go_enter Try.func95, Try.ntmps95
  go_wp2_with fail
  refine K.out.mono ?_
  rintro e w1 ⟨rfl, rfl⟩
  go_wp2_with fail
  exact bodyPost_ret (v := .tuple #[.int .i64 0, .int .i64 16]) (by simp [results, Try.results95, go_sem]) rfl ⟨rfl, rfl⟩
set_option maxRecDepth 100000 in
theorem not_Lay (r s a k : Int) {w : World} {A : Option Addr} (h : NoT w A) : Calls Try.prog 92 #[.pointer A, .int .i64 r, .int .i64 s, .int .i64 a, .int .i64 k] w fun e w' => e = .returned (.tuple #[.int .i64 0, .int .i64 0, .int .i64 16]) ∧ w = w' := by
  have K := Lib.hid (not_find r h)
  clear h
  go_enter Try.func92, Try.ntmps92
  go_wp2_with fail
  refine K.out.mono ?_
  rintro e w1 ⟨rfl, rfl⟩
  go_wp2_with fail
  exact bodyPost_ret (v := .tuple #[.int .i64 0, .int .i64 0, .int .i64 16]) (by simp [results, Try.results92, go_sem]) rfl ⟨rfl, rfl⟩
set_option maxRecDepth 100000 in
theorem not_Add (r i : Int) {w : World} {A : Option Addr} (h : NoT w A) : Calls Try.prog 93 #[.pointer A, .int .i64 r, .int .i64 i] w fun e w' => e = .returned (.int .i64 16) ∧ w = w' := by
  have K := Lib.hid (not_find r h)
  clear h
  go_enter Try.func93, Try.ntmps93
  go_wp2_with fail
  refine K.out.mono ?_
  rintro e w1 ⟨rfl, rfl⟩
  go_wp2_with fail
  exact bodyPost_ret (v := .int .i64 16) (by simp [results, Try.results93, go_sem]) rfl ⟨rfl, rfl⟩
set_option maxRecDepth 100000 in
theorem not_Under (r : Int) {w : World} {A : Option Addr} (h : NoT w A) : Calls Try.prog 96 #[.pointer A, .int .i64 r] w fun e w' => e = .returned (.tuple #[.slice none 0 0, .int .i64 16]) ∧ w = w' := by
  have K := Lib.hid (not_find r h)
  clear h
  go_enter Try.func96, Try.ntmps96
  go_wp2_with fail
  refine K.out.mono ?_
  rintro e w1 ⟨rfl, rfl⟩
  go_wp2_with fail
  exact bodyPost_ret (v := .tuple #[.slice none 0 0, .int .i64 16]) (by simp [results, Try.results96, go_sem]) rfl ⟨rfl, rfl⟩
set_option maxRecDepth 100000 in
theorem not_Free (r : Int) {w : World} {A : Option Addr} (h : NoT w A) : Calls Try.prog 97 #[.pointer A, .int .i64 r] w fun e w' => e = .returned (.tuple #[.slice none 0 0, .int .i64 16]) ∧ w = w' := by
  have K := Lib.hid (not_Under r h)
  clear h
  go_enter Try.func97, Try.ntmps97
  go_wp2_with fail
  refine K.out.mono ?_
  rintro e w1 ⟨rfl, rfl⟩
  go_wp2_with fail
  exact bodyPost_ret (v := .tuple #[.slice none 0 0, .int .i64 16]) (by simp [results, Try.results97, go_sem]) rfl ⟨rfl, rfl⟩
set_option maxRecDepth 100000 in
theorem not_Of (c : Int) {w : World} {A : Option Addr} (h : NoT w A) : Calls Try.prog 99 #[.pointer A, .int .i64 c] w fun e w' => e = .returned (.slice none 0 0) ∧ w = w' := by
  have K := Lib.hid (not_is h)
  clear h
  go_enter Try.func99, Try.ntmps99
  go_wp2_with fail
  refine K.out.mono ?_
  rintro e w1 ⟨rfl, rfl⟩
  go_wp2_with fail
  exact bodyPost_ret (v := .slice none 0 0) (by simp [results, Try.results99, go_sem]) rfl ⟨rfl, rfl⟩
set_option maxRecDepth 100000 in
theorem not_Len {w : World} {A : Option Addr} (h : NoT w A) : Calls Try.prog 98 #[.pointer A] w fun e w' => e = .returned (.int .i64 0) ∧ w = w' := by
  have K := Lib.hid (not_is h)
  clear h
  go_enter Try.func98, Try.ntmps98
  go_wp2_with fail
  refine K.out.mono ?_
  rintro e w1 ⟨rfl, rfl⟩
  go_wp2_with fail
  exact bodyPost_ret (v := .int .i64 0) (by simp [results, Try.results98, go_sem]) rfl ⟨rfl, rfl⟩
end Go.Proofs.Ytdhcmnbajkpjiaa
/-
  The plain law of RegionStale: which regions' chunks a subtree has.
-/
namespace Go.Proofs.Ytdhcmnbajkpjiaa
open Go.RowKit
set_option linter.unusedVariables false
set_option linter.unusedSimpArgs false

/-- The chunks of the law's x-th region. -/
def chS (x : Nat) : List Int := if x = 0 then [1000] else if x = 1 then [] else [(x : Int) - 2]
def StG (st : Int → Option (Int × List Int × Int)) (m : Nat) : Prop := ∀ x : Nat, x < m → st (x : Int) = some (1, chS x, 0)
/-- The law's handles. -/
def hs (m : Nat) : List Int := (List.range m).map hnd
theorem hs_len (m : Nat) : (hs m).length = m := by simp [hs]
theorem hs_get {m j : Nat} (h : j < m) : (hs m).getD j 0 = hnd j := by simp [hs, List.getD, h]
theorem hs_succ (m : Nat) : hs (m + 1) = hs m ++ [hnd m] := by simp [hs, List.range_succ]
variable {m : Nat} {S : FSt} {N : List Nat} {st : Int → Option (Int × List Int × Int)}
theorem StG.new (h : StG st m) : StG (stSet (stNew st (m : Int) 1) (m : Int) 1 (chS m) 0) (m + 1) := fun x hx => by
  unfold stSet stNew
  by_cases e : x = m
  · subst e; rw [if_pos rfl]
  · rw [if_neg (by omega), if_neg (by omega)]; exact h x (by omega)
theorem Fresh.upset (h : Fresh m S N) (hm : m < 4096) (i : Nat) (q : Int) : (S.add 4096 i q).up = S.up.set m q := by
  unfold FSt.add
  rw [h.pick hm]
theorem chS_len (x : Nat) : (chS x).length ≤ 1 := by
  unfold chS
  split
  · simp
  · split <;> simp
theorem flat_congrI {f g : Nat → List Int} : ∀ {l : List Nat}, (∀ x ∈ l, f x = g x) → l.flatMap f = l.flatMap g
  | [], _ => rfl
  | a :: l, h => by rw [List.flatMap_cons, List.flatMap_cons, h a (by simp), flat_congrI (fun x hx => h x (by simp [hx]))]
theorem under_eq (h : Fresh m S N) (hO : Ord N S.up) (hs : StG st m) (q : Nat) : underV N S st q = (preW N S.up (q : Int)).flatMap chS := by
  unfold underV
  refine flat_congrI (fun x hx => ?_)
  have hx' := preW_in hO _ hx
  rw [h.n, List.mem_range] at hx'
  exact chunksOf_some (hs x hx')
theorem under_mem2 {L : List Nat} (hL : ∀ x ∈ L, x < 100) {p : Nat} (hp : 2 ≤ p) (hp2 : p < 100) : (p : Int) - 2 ∈ L.flatMap chS ↔ p ∈ L := by
  rw [List.mem_flatMap]
  constructor
  · rintro ⟨x, hx, h⟩
    have := hL x hx
    unfold chS at h
    split at h
    · rw [List.mem_singleton] at h; omega
    · split at h
      · cases h
      · rw [List.mem_singleton] at h
        obtain rfl : p = x := by omega
        exact hx
  · intro h
    refine ⟨p, h, ?_⟩
    unfold chS
    rw [if_neg (by omega), if_neg (by omega)]
    simp
theorem under_mem0 {L : List Nat} (hL : ∀ x ∈ L, x < 100) : (1000 : Int) ∈ L.flatMap chS ↔ 0 ∈ L := by
  rw [List.mem_flatMap]
  constructor
  · rintro ⟨x, hx, h⟩
    have := hL x hx
    unfold chS at h
    split at h
    · rename_i e; exact e ▸ hx
    · split at h
      · cases h
      · rw [List.mem_singleton] at h; omega
  · intro h
    exact ⟨0, h, by simp [chS]⟩
theorem under_len (L : List Nat) : (L.flatMap chS).length ≤ L.length := by
  induction L with
  | nil => simp
  | cons a l ih =>
    rw [List.flatMap_cons, List.length_append, List.length_cons]
    have := chS_len a
    omega
theorem root_alone (hO : Ord N S.up) {q p : Nat} (hu : S.up.getD p 0 = -1) (h : p ∈ preW N S.up (q : Int)) : q = p := by
  have hp := preW_in hO _ h
  have hq : (0 : Int) ≤ (q : Int) ∧ ((q : Int)).toNat ∈ N := by
    by_cases hx : (0 : Int) ≤ (q : Int) ∧ ((q : Int)).toNat ∈ N
    · exact hx
    · rw [preW_no hx] at h; cases h
  rw [preW_yes hq] at h
  have e0 : ((q : Int)).toNat = q := by omega
  rw [e0] at h hq
  have := (PW.within hO.is hp hq.2).1 h
  rw [PW.ups_none hO.is hp (by unfold parW; rw [hu, if_neg (by omega)])] at this
  exact List.mem_singleton.1 this
theorem self_in (hO : Ord N S.up) {q : Nat} (hq : q ∈ N) : q ∈ preW N S.up (q : Int) := by
  rw [preW_yes ⟨by omega, by simpa using hq⟩]
  have e0 : ((q : Int)).toNat = q := by omega
  rw [e0]
  exact PW.self_pre hO.is q
/-- How many of the first p are not in P. -/
def cntG (P : List Nat) (p : Nat) : Nat := ((List.range p).filter (fun x => decide (x ∉ P))).length
theorem cntG_in {P : List Nat} {p : Nat} (h : p ∈ P) : cntG P (p + 1) = cntG P p := by unfold cntG; rw [List.range_succ, List.filter_append]; simp [h]
theorem cntG_out {P : List Nat} {p : Nat} (h : p ∉ P) : cntG P (p + 1) = cntG P p + 1 := by unfold cntG; rw [List.range_succ, List.filter_append]; simp [h]
theorem cntG_le (P : List Nat) (p : Nat) : cntG P p ≤ p := by
  unfold cntG
  refine Nat.le_trans (List.length_filter_le _ _) ?_
  simp
theorem cntG_all (P : List Nat) (m : Nat) : (cutsN (List.range m) P).length = cntG P m := by
  have p1 : (cutsN (List.range m) P).Perm ((List.range m).filter (fun x => decide (x ∉ P))) :=
    (List.perm_ext_iff_of_nodup (cutsN_nodup P _ List.nodup_range) (List.nodup_range.filter _)).2 (fun x => by
      rw [cutsN_mem _ _ _ List.nodup_range, List.mem_filter, decide_eq_true_eq])
  exact p1.length_eq
theorem add_one {j : Int} (h0 : 0 ≤ j) (h1 : j ≤ 1048575) : PG.add [] 0 j = ([j], 0) := by
  unfold PG.add
  have hr : PG.right [] 0 = true := by decide
  have hf : PG.fit j = true := (PG.fit_iff j).2 ⟨h0, h1⟩
  rw [hr, hf, if_neg (by simp), if_neg (by simp)]
  rfl
theorem OwnI.over {B : Nat} {w w' : World} {v : Value} {l : List Int} {O O' : Nat → Prop} (h : OwnI B w v l) (hn : ∀ b, v.ownBlock = some b → ¬ O b) (hc : Chg O w w') (hsub : ∀ j, O' j → O j ∨ w.heap.size ≤ j) :
    OwnI B w' v l ∧ ∀ b, v.ownBlock = some b → ¬ O' b :=
  ⟨h.of_chg hc hn, fun b e hO => (hsub b hO).elim (hn b e) (fun h5 => by have := (h.ltB b e).2; omega)⟩
end Go.Proofs.Ytdhcmnbajkpjiaa
/-
  Layer 40 (region): the walk of RegionStale.
-/
namespace Go.Proofs.Ytdhcmnbajkpjiaa
open Go.RowKit
set_option linter.unusedVariables false
set_option linter.unusedSimpArgs false
attribute [local go_sem] drewN_alloc drewN_setCell

theorem app_list3 {ops : Array Oper} {rest : List Oper} {o : Oper} {a : Act} {Q : Exit → Act → World → Prop} {w : World} (hgd : o.guard = none) (s x : Operand)
    (ho : o.op = .call { callee := .builtin .append, args := #[s, x], argTypes := #[27, 27] })
    (B : Nat) (v : Value) (l : List Int) (hsv : a.eval s = v) (hown : OwnI B w v l)
    (A : Option Addr) (m c : Nat) (l2 : List Int) (hx : a.eval x = .slice A m c) (hs : SrcS 1 w A m (cellsI l2)) (hlen : l.length + m ≤ 1048576) (hbase : B ≤ w.heap.size)
    (h : ∀ v' w', OwnI B w' v' (l ++ l2) → w.grownBy w' v.ownBlock → (v'.ownBlock = v.ownBlock ∨ v'.ownBlock = some w.heap.size) → wpList Try.prog ops Q rest (a.put o.dst v') w') : wpList Try.prog ops Q (o :: rest) a w := by
  obtain ⟨i, hi, hz, hsz, hby⟩ := infoInt
  refine wpList_append_S w hgd 1 (by decide) s x 27 ho B 3 i _ 8 Try.underlying27 hi hz hsz hby rfl v l.length _ hsv hown A m c _ hx hs (cellsI_one' l2) (by unfold maxLen; omega) (by omega) hbase (fun v' w' h2 h3 h4 => ?_)
  refine h v' w' ?_ h3 h4
  have hm : m = l2.length := by have := hs.1; simp only [cellsI, List.length_map] at this; omega
  unfold OwnI
  rw [List.length_append, ← hm]
  unfold cellsI at h2 ⊢
  rw [List.map_append]
  exact h2
theorem own_two (w : World) (x y : Int) : OwnI w.heap.size (w.alloc (.cells #[.int .i64 x, .int .i64 y] 3)) (.slice (some ⟨w.heap.size, 0, none⟩) 2 2) [x, y] :=
  OwnI.of_row (Nat.le_refl _) (RowR.new w 3 [.int .i64 x, .int .i64 y]) rfl (by omega)
theorem own_one (w : World) (x : Int) : OwnI w.heap.size (w.alloc (.cells #[.int .i64 x] 3)) (.slice (some ⟨w.heap.size, 0, none⟩) 1 1) [x] :=
  OwnI.of_row (Nat.le_refl _) (RowR.new w 3 [.int .i64 x]) rfl (by omega)
theorem OwnI.srcI {B : Nat} {w : World} {A : Option Addr} {n c : Nat} {l : List Int} (h : OwnI B w (.slice A n c) l) (hn : l.length = n) : SrcS 1 w A n (cellsI l) := by
  have := h.intsV
  rw [hn] at this
  exact IntsAt.srcI this
theorem IntsAt.mono1 {w : World} {A : Option Addr} {n : Nat} {xs : List Int} (h : IntsAt w A n xs) : IntsAt w A n xs := h
def StaleRel (w : World) (tb n : Nat) (v i : Value) (wr : World) : Prop :=
  ∃ (j : Nat) (O : Nat → Prop) (S : FSt) (N : List Nat) (k : Nat) (st : Int → Option (Int × List Int × Int)), i = .int .i64 j ∧ j ≤ n ∧ Fresh (2 + j) S N ∧ TreesOver w wr tb O N S k st ∧ k ≤ 10 + 3 * j ∧ StG st (2 + j) ∧ S.up.getD 1 0 = -1 ∧ OwnI w.heap.size wr v (hs (2 + j)) ∧ ∀ b, v.ownBlock = some b → ¬ O b
def GoneRel (w7 : World) (P : List Nat) (m : Nat) (nn i : Value) (wr : World) : Prop :=
  ∃ p : Nat, i = .int .i64 (p : Int) ∧ p ≤ m ∧ nn = .int .i64 (cntG P p : Int) ∧ Below w7.heap.size w7 wr
/-- One round: a child of some region, with a chunk of its own. -/
theorem stale_child {w wr : World} {tb : Nat} {O : Nat → Prop} {S : FSt} {N : List Nat} {k m q : Nat} {st : Int → Option (Int × List Int × Int)} (hF : Fresh m S N) (hm : m < 4000) (hq : q < m) (hk : k < 99000) (ht : TreesOver w wr tb O N S k st) (hst : StG st m) :
    Calls Try.prog 95 #[.pointer (some ⟨tb, 0, none⟩), .int .i64 (hnd q)] wr (MadeF w tb O N S k st m q (q : Int) 1 wr) :=
  (region_Child (hnd q) q (hnd_bd q).1 (hnd_bd q).2 (by omega) ht (hF.find hq (by omega)) (hst q hq) (hF.pick (by omega))).mono fun e w' hh => made_F hF (by omega) hh
set_option maxRecDepth 100000 in
set_option maxHeartbeats 32000000 in
theorem law40_RegionStale (A : Option Addr) (n c : Nat) (xs : List Int) (kx : Int) (w : World) (hA : BytesAt w A n xs) (hkx : 0 ≤ kx ∧ kx < 256) :
    Calls Try.prog 16 #[.slice A n c, .int .u8 kx] w fun e w' => e = .returned (.bool true) ∧ Below w.heap.size w w' := by
  have KW := Lib.hid law40_works
  by_cases h40 : 40 < n
  · have h1' : (40 : Int) < (n : Int) := by omega
    clear hA
    go_enter Try.func16, Try.ntmps16
    go_wp2_with fail
    refine (KW.out _).mono ?_
    rintro e w1 ⟨rfl, h1⟩
    go_wp2_with fail
    go_ret
    exact ⟨rfl, h1⟩
  have hd1 : decide ((40 : Int) < (n : Int)) = false := by simp; omega
  have j1 : (n : Int) ≤ 40 := by omega
  have HA := Lib.hid hA
  have K0 := Lib.hid (region_New w)
  have b0 := hnd_bd 0
  have b1 := hnd_bd 1
  clear hA h40
  go_enter Try.func16, Try.ntmps16
  go_wp2_with fail
  refine K0.out.mono ?_
  intro e w1 hd
  obtain ⟨tb, O, rfl, t1, -⟩ := TreesOver.new hd
  have K1 := Lib.hid ((region_Root 1 ⟨by omega, by omega⟩ (by omega) t1 (Fresh.new.pick (by omega))).mono fun e w' hh => made_F Fresh.new (by omega) hh)
  clear t1 hd K0
  go_wp2_with fail
  refine K1.out.mono ?_
  rintro e w2 ⟨rfl, O2, t2, -, -⟩
  obtain ⟨S1, hS1⟩ : ∃ S1, (FSt.new 4096).add 4096 4096 (-1) = S1 := ⟨_, rfl⟩
  have F1 : Fresh 1 S1 [0] := hS1 ▸ Fresh.new.add (by omega) _ _
  rw [hS1] at t2
  have K2 := Lib.hid ((region_Root 1 ⟨by omega, by omega⟩ (by omega) t2 (F1.pick (by omega))).mono fun e w' hh => made_F F1 (by omega) hh)
  have F1' := Lib.hid F1
  clear t2 K1 hS1 F1
  go_wp2_with fail
  refine K2.out.mono ?_
  rintro e w3 ⟨rfl, O3, t3, -, -⟩
  have F2 := F1'.out.add (by omega) 4096 (-1)
  have up1 : (S1.add 4096 4096 (-1)).up.getD 1 0 = -1 := by
    rw [F1'.out.upset (by omega), getD_setI (by
      obtain ⟨mb, Fb, own, f, h0, _⟩ := t3.ex
      have := h0.forest.ulen
      rw [F1'.out.upset (by omega), List.length_set] at this
      omega), if_pos rfl]
  obtain ⟨S2, hS2⟩ : ∃ S2, S1.add 4096 4096 (-1) = S2 := ⟨_, rfl⟩
  rw [hS2] at t3 F2 up1
  obtain ⟨V, hV⟩ : ∃ V, w3.alloc (.cells #[.int .i64 (hnd 0), .int .i64 (hnd 1)] 3) = V := ⟨_, rfl⟩
  have o3 : OwnI w.heap.size V (.slice (some ⟨w3.heap.size, 0, none⟩) 2 2) [hnd 0, hnd 1] := by
    rw [← hV]; exact (own_two w3 (hnd 0) (hnd 1)).mono t3.below.size
  have n3 : ¬ O3 w3.heap.size := fun h => by have := (t3.fresh _ h).2; omega
  have t3' : TreesOver w V tb O3 ([0] ++ [1]) S2 (0 + 1 + 1) (stNew (stNew (fun _ => none) ((0 : Nat) : Int) 1) ((1 : Nat) : Int) 1) := by
    rw [← hV]; exact t3.keep (bel_alloc (Below.refl _ _) _)
  have KA := region_Add (hnd 0) 1000 0 (c := 1) (l := []) (cur := 0) b0.1 b0.2 (by omega) t3' (F2.find (by omega) (by omega)) (by simp [stNew]) (by simp) (by decide)
  rw [show PG.add [] 0 1000 = ([1000], 0) by decide] at KA
  replace KA := Lib.hid KA
  have O3' := Lib.hid o3
  have F2' := Lib.hid F2
  have N3 := Lib.hid n3
  have UP1 := Lib.hid up1
  obtain ⟨vb, hvb⟩ : ∃ vb, w3.heap.size = vb := ⟨_, rfl⟩
  rw [hvb] at O3' N3
  clear t3 t3' o3 n3 F2 up1 hS2 K2
  go_wp2_with fail
  refine KA.out.mono ?_
  rintro e w4 ⟨rfl, O4, t4, c4, m4⟩
  have HST : Hid (StaleRel w tb n (.slice (some ⟨vb, 0, none⟩) 2 2) (.int .i64 ((0 : Nat) : Int)) w4) := Lib.hid (by
    obtain ⟨a1, a2⟩ := O3'.out.over (fun b e => by cases e; exact N3.out) c4 m4
    refine ⟨0, O4, S2, [0] ++ [1], _, _, rfl, Nat.zero_le _, F2'.out, t4, by omega, fun x hx => ?_, UP1.out, a1, a2⟩
    have hx' : x = 0 ∨ x = 1 := by omega
    rcases hx' with rfl | rfl
    · rfl
    · rfl)
  clear t4 c4 m4 KA O3' F2' N3 UP1 hV hvb F1'
  go_wp2_with fail
  go_loopw [10, 11] (fun v i wr => StaleRel w tb n v i wr) (fun _ i _ => n - (intOf i).toNat)
  case atStart => exact HST.out
  case round =>
    clear HST
    obtain ⟨j, O, S, N, k, st, rfl, hj, hF, ht, hk, hst, hup, ho, hno⟩ := hrel
    by_cases hlt : (j : Int) < n
    · have hjn : j < n := by omega
      obtain ⟨b, off, rfl, hbw, hcs⟩ := HA.out.2.2.2 (by omega)
      have x0 := (ht.below.cell (p := ⟨b, off + j, none⟩) hbw).trans (hcs j hjn)
      obtain ⟨hx0, hx1⟩ := HA.out.bd hjn
      generalize xs.getD j 0 = x at *
      obtain ⟨m, hm⟩ : ∃ m, 2 + j = m := ⟨_, rfl⟩
      rw [hm] at hF hst ho
      have hm42 : m < 50 := by omega
      have m0 : (0 : Int) < (m : Int) := by omega
      obtain ⟨q, hq⟩ : ∃ q : Nat, x % (m : Int) = (q : Int) := ⟨(x % (m : Int)).toNat, by have := Int.emod_nonneg x (show (m : Int) ≠ 0 by omega); omega⟩
      have hqm : q < m := by have := Int.emod_lt_of_pos x m0; omega
      have xt : x.tmod (m : Int) = (q : Int) := by rw [Int.tmod_eq_emod_of_nonneg hx0]; exact hq
      obtain ⟨VA, vc, rfl, vi, -⟩ := ho.ints
      rw [hs_len] at vi ho hno ⊢
      obtain ⟨vb, voff, rfl, hvb, hvc⟩ := vi.2.2 (by omega)
      have q0 := hvc q hqm
      rw [hs_get hqm] at q0
      have KC := Lib.hid (stale_child hF (by omega) hqm (by omega) ht hst)
      have HT := Lib.hid ht
      have HF := Lib.hid hF
      have HO := Lib.hid ho
      have HNO := Lib.hid hno
      have HSTG := Lib.hid hst
      have i0 : (0 : Int) ≤ (j : Int) := by omega
      have qm1 : (q : Int) < (m : Int) := by omega
      have q1 : (0 : Int) ≤ (q : Int) := by omega
      have mz : ((m : Int) == 0) = false := by simp; omega
      have wx : IntKind.i64.wrap x = x := IntWalk.i64_in _ (by omega)
      have wq : IntKind.i64.wrap (q : Int) = (q : Int) := IntWalk.i64_in _ (by omega)
      have mz2 : (m : Int) ≠ 0 := by omega
      clear hcs vi hvc ht hF ho hno hst hq
      go_wp2_with fail
      refine KC.out.mono ?_
      rintro e w2 ⟨rfl, O2, t2, c2, n2⟩
      have F2 := HF.out.add (by omega) q (q : Int)
      have up2 : (S.add 4096 q (q : Int)).up.getD 1 0 = -1 := by rw [HF.out.upset (by omega), getD_set_ne (by omega)]; exact hup
      obtain ⟨a1, a2⟩ := HO.out.over HNO.out c2 n2
      have KA := region_Add (hnd m) (j : Int) m (c := 1) (l := []) (cur := 0) (hnd_bd m).1 (hnd_bd m).2 (by omega) t2 (F2.find (by omega) (by omega)) (by unfold stNew; rw [if_pos rfl]) (by simp) (by rw [add_one (by omega) (by omega)])
      rw [add_one (by omega) (by omega)] at KA
      replace KA := Lib.hid KA
      have F2' := Lib.hid F2
      have UP2 := Lib.hid up2
      have A1 := Lib.hid a1
      have A2 := Lib.hid a2
      have sz2 := c2.size
      clear t2 c2 n2 F2 up2 a1 a2 KC x0 q0 HO HNO
      go_wp2_with fail
      refine KA.out.mono ?_
      rintro e w4 ⟨rfl, O4, t4, c4, n4⟩
      obtain ⟨a1, a2⟩ := A1.out.over A2.out c4 n4
      have HST : Hid (StG (stSet (stNew st (m : Int) 1) (m : Int) 1 [(j : Int)] 0) (m + 1)) := Lib.hid (by
        have := HSTG.out.new
        have ec : chS m = [(j : Int)] := by unfold chS; rw [if_neg (by omega), if_neg (by omega)]; congr 1; omega
        rw [ec] at this
        exact this)
      have T4 := Lib.hid t4
      have B1 := Lib.hid a1
      have B2 := Lib.hid a2
      have sz4 : w.heap.size ≤ w4.heap.size := t4.below.size
      have HB : Hid (∀ b, Value.ownBlock (.slice (some ⟨vb, voff, none⟩) m vc) = some b → w.heap.size ≤ b) := Lib.hid (fun b e => (a1.ltB b e).1)
      clear t4 c4 n4 a1 a2 KA A1 A2 HSTG
      go_wp2_with (at_builtin; refine app_list3 rfl (.tmp 96) (.tmp 98) rfl w.heap.size _ (hs m) rfl (B1.out.keep (bel_alloc (Below.refl w4.heap.size w4) _)) (some ⟨w4.heap.size, 0, none⟩) 1 1 [hnd m] rfl ((own_one w4 (hnd m)).srcI rfl) (by rw [hs_len]; omega) (Nat.le_trans sz4 (by simp)) ?_; intro v' w' ho' hg' hob'; replace ho' := Lib.hid ho'; replace hg' := Lib.hid hg'; replace hob' := Lib.hid hob')
      have tw := (T4.out.keep (bel_alloc (Below.refl w4.heap.size w4) (.cells #[.int .i64 (hnd m)] 3))).of_chg (C := fun b => Value.ownBlock (.slice (some ⟨vb, voff, none⟩) m vc) = some b) (Chg.of_grown hg'.out (fun b e => e)) (fun b hO e => B2.out b e hO) HB.out
      go_roundw
      case rel =>
        refine ⟨j + 1, O4, _, _, _, _, by go_num, by omega, by rw [show 2 + (j + 1) = m + 1 by omega]; exact F2'.out, tw, by omega, by rw [show 2 + (j + 1) = m + 1 by omega]; exact HST.out, UP2.out, by rw [show 2 + (j + 1) = m + 1 by omega, hs_succ]; exact ho'.out, fun b e hO => ?_⟩
        rcases hob'.out with h5 | h5
        · exact B2.out b (h5 ▸ e) hO
        · rw [h5] at e
          have h6 := (T4.out.fresh b hO).2
          have h7 := Option.some.inj e
          rw [World.size_alloc] at h7
          omega
      case measure => simp [intOf]; omega
    · have hjn : j = n := by omega
      subst hjn
      obtain ⟨m, hm⟩ : ∃ m, 2 + j = m := ⟨_, rfl⟩
      rw [hm] at hF hst ho
      have hm42 : m < 50 := by omega
      have m2 : 2 ≤ m := by omega
      have m0 : (0 : Int) < (m : Int) := by omega
      obtain ⟨q, hq⟩ : ∃ q : Nat, kx % (m : Int) = (q : Int) := ⟨(kx % (m : Int)).toNat, by have := Int.emod_nonneg kx (show (m : Int) ≠ 0 by omega); omega⟩
      have hqm : q < m := by have := Int.emod_lt_of_pos kx m0; omega
      have xt : kx.tmod (m : Int) = (q : Int) := by rw [Int.tmod_eq_emod_of_nonneg hkx.1]; exact hq
      obtain ⟨VA, vc, rfl, vi, -⟩ := ho.ints
      rw [hs_len] at vi ho hno ⊢
      obtain ⟨vb, voff, rfl, hvb, hvc⟩ := vi.2.2 (by omega)
      have q0 := hvc q hqm
      rw [hs_get hqm] at q0
      have hqN : q ∈ N := by rw [hF.n, List.mem_range]; exact hqm
      have hall : ∀ x ∈ N, ∃ c l cur, st (x : Int) = some (c, l, cur) := fun x hx => by
        rw [hF.n, List.mem_range] at hx
        exact ⟨_, _, _, hst x hx⟩
      have hpl : (preW N S.up (q : Int)).length ≤ 4096 := by
        have := preW_len ht.ord (q : Int)
        rw [hF.n, List.length_range] at this
        rw [hF.n]; omega
      have hul : (underV N S st q).length ≤ 4096 := by
        rw [under_eq hF ht.ord hst]
        exact Nat.le_trans (under_len _) hpl
      have KU := Lib.hid (region_Under (hnd q) q (hnd_bd q).1 (hnd_bd q).2 ht (hF.find hqm (by omega)) hall (by omega))
      have hL : ∀ x ∈ preW N S.up (q : Int), x < 100 := fun x hx => by
        have := preW_in ht.ord _ hx
        rw [hF.n, List.mem_range] at this
        omega
      -- what is freed, and which regions are gone
      have g2 : Hid (∀ p : Nat, 2 ≤ p → p < m → ((p : Int) - 2 ∈ underV N S st q ↔ p ∈ postW N S.up (q : Int))) := Lib.hid (fun p h2 hp => by
        rw [under_eq hF ht.ord hst, under_mem2 hL h2 (by omega), postW_mem ht.ord])
      have g0 : Hid ((1000 : Int) ∈ underV N S st q ↔ 0 ∈ postW N S.up (q : Int)) := Lib.hid (by
        rw [under_eq hF ht.ord hst, under_mem0 hL, postW_mem ht.ord])
      have g1 : Hid (1 ∈ postW N S.up (q : Int) → q = 1) := Lib.hid (fun h => root_alone ht.ord hup ((postW_mem ht.ord _ _).1 h))
      have gq : Hid (q ∈ postW N S.up (q : Int)) := Lib.hid ((postW_mem ht.ord _ _).2 (self_in ht.ord hqN))
      have KF : Hid (∀ W, Below wr.heap.size wr W → Calls Try.prog 97 #[.pointer (some ⟨tb, 0, none⟩), .int .i64 (hnd q)] W (FreedReg w tb O N S k st q W)) := Lib.hid (fun W hW => region_Free (hnd q) q (hnd_bd q).1 (hnd_bd q).2 (ht.keep hW) (hF.find hqm (by omega)) hall (by omega))
      have HT := Lib.hid ht
      have HF := Lib.hid hF
      have HO := Lib.hid ho
      have HNO := Lib.hid hno
      have HSTG := Lib.hid hst
      have HVI := Lib.hid hvc
      have HU := Lib.hid hul
      have qm1 : (q : Int) < (m : Int) := by omega
      have q1 : (0 : Int) ≤ (q : Int) := by omega
      have mz : ((m : Int) == 0) = false := by simp; omega
      have wx : IntKind.i64.wrap kx = kx := IntWalk.i64_in _ (by omega)
      have wq : IntKind.i64.wrap (q : Int) = (q : Int) := IntWalk.i64_in _ (by omega)
      have mz2 : (m : Int) ≠ 0 := by omega
      clear vi hvc ht hF ho hno hst hq hall hpl hul hL hqN HA
      go_wp2_with fail
      refine KU.out.mono ?_
      rintro e w5 ⟨v5, rfl, o5, b5⟩
      have KF5 := Lib.hid (KF.out w5 b5)
      obtain ⟨A5, c5, rfl, -⟩ := o5.ints
      have O5 := Lib.hid o5
      have B5 := Lib.hid b5
      clear o5 b5 KU KF
      go_wp2_with fail
      refine KF5.out.mono ?_
      rintro e w6 ⟨v6, rfl, o6, O6, t6, c6, n6⟩
      obtain ⟨A6, c6', rfl, i6, -⟩ := o6.ints
      have o5' := (O5.out.of_chg c6 (fun b e hO => by
        have h1 := (HT.out.fresh b hO).2
        have h2 := (O5.out.ltB b e).1
        omega)).ints
      obtain ⟨_, _, e5, i5, -⟩ := o5'
      cases e5
      have oA := (HO.out.keep B5.out).of_chg c6 HNO.out
      have viA : ∀ p, p < m → w6.cell? ⟨vb, voff + p, none⟩ = some (.int .i64 (hnd p)) := fun p hp => by
        obtain ⟨A', c', e, i, -⟩ := oA.ints
        rw [hs_len] at e i
        cases e
        obtain ⟨b', o', e', -, h⟩ := i.2.2 (by omega)
        cases e'
        rw [h p hp, hs_get hp]
      have KS := base_SameInts c5 c6' i5 i6
      rw [decide_eq_true rfl] at KS
      replace KS := Lib.hid KS
      obtain ⟨U, hU⟩ : ∃ U, underV N S st q = U := ⟨_, rfl⟩
      obtain ⟨P, hP⟩ : ∃ P, postW N S.up (q : Int) = P := ⟨_, rfl⟩
      rw [hU] at i6 g2 g0 HU KS ⊢
      rw [hP] at t6 g2 g0 g1 gq
      have T6 := Lib.hid t6
      have I6 := Lib.hid i6
      have VIA := Lib.hid viA
      have hvb6 : vb < w6.heap.size := (oA.ltB vb rfl).2
      obtain ⟨u, hu⟩ : ∃ u, U.length = u := ⟨_, rfl⟩
      rw [hu] at I6 KS HU ⊢
      have HUL := Lib.hid hu
      clear o6 i6 i5 oA viA t6 c6 n6 hU hP hu O5 KF5 HVI q0 HO
      go_wp2_with fail
      refine KS.out.mono ?_
      rintro e w7 ⟨rfl, b7⟩
      have T7 := Lib.hid (T6.out.keep b7)
      have I7 := Lib.hid (I6.out.keep b7)
      have VI7 : Hid (∀ p, p < m → w7.cell? ⟨vb, voff + p, none⟩ = some (.int .i64 (hnd p))) := Lib.hid (fun p hp => (b7.cell hvb6).trans (VIA.out p hp))
      have hvb7 : vb < w7.heap.size := Nat.lt_of_lt_of_le hvb6 b7.size
      clear b7 KS T6 I6 VIA
      go_wp2_with fail
      go_loopw [19, 20] (fun nn i wr => GoneRel w7 P m nn i wr) (fun _ i _ => m - (intOf i).toNat)
      case atStart => exact ⟨0, rfl, Nat.zero_le _, rfl, Below.refl _ _⟩
      case round =>
        obtain ⟨p, rfl, hpm, rfl, hb⟩ := hrel
        by_cases hlt : (p : Int) < m
        · have hpm1 : p < m := by omega
          have p0 := (hb.cell (p := ⟨vb, voff + p, none⟩) hvb7).trans (VI7.out p hpm1)
          have i0 : (0 : Int) ≤ (p : Int) := by omega
          have hcn := cntG_le P p
          have wc : IntKind.i64.wrap ((cntG P p : Int) + 1) = (cntG P p : Int) + 1 := IntWalk.i64_in _ (by omega)
          have TR := Lib.hid (T7.out.keep hb)
          have IR := Lib.hid (I7.out.keep hb)
          have hfd := HF.out.gone (by omega) T7.out.rel hpm1
          by_cases hin : p ∈ P
          · rw [if_pos hin] at hfd
            have KC := Lib.hid (region_Chunks_no (hnd p) 4 (hnd_bd p).1 (hnd_bd p).2 (by omega) TR.out hfd)
            have HCN := Lib.hid (cntG_in hin)
            clear hfd
            by_cases hpq : p = q
            · subst hpq
              by_cases guN : 0 < u
              · have gud : decide (0 < u) = true := by simp; omega
                by_cases gp2 : (2 : Int) ≤ (p : Int)
                · have gpd : decide ((2 : Int) ≤ (p : Int)) = true := by simp; omega
                  go_wp2_with fail
                  refine KC.out.mono ?_
                  rintro e w8 ⟨rfl, b8⟩
                  have p8 := (b8.cell (p := ⟨vb, voff + p, none⟩) (Nat.lt_of_lt_of_le hvb7 hb.size)).trans p0
                  have I8 := Lib.hid (IR.out.keep b8)
                  have B8 := Lib.hid b8
                  clear b8 p0 KC
                  go_wp2_with fail
                  go_roundw
                  case rel => exact ⟨p + 1, by go_num, by omega, by have h := HCN.out; congr 1; omega, hb.trans (B8.out.mono hb.size)⟩
                  case measure => simp [intOf]; omega
                · have gpd : decide ((2 : Int) ≤ (p : Int)) = false := by simp; omega
                  go_wp2_with fail
                  refine KC.out.mono ?_
                  rintro e w8 ⟨rfl, b8⟩
                  have p8 := (b8.cell (p := ⟨vb, voff + p, none⟩) (Nat.lt_of_lt_of_le hvb7 hb.size)).trans p0
                  have I8 := Lib.hid (IR.out.keep b8)
                  have B8 := Lib.hid b8
                  clear b8 p0 KC
                  go_wp2_with fail
                  go_roundw
                  case rel => exact ⟨p + 1, by go_num, by omega, by have h := HCN.out; congr 1; omega, hb.trans (B8.out.mono hb.size)⟩
                  case measure => simp [intOf]; omega
              · have gud : decide (0 < u) = false := by simp; omega
                by_cases gp2 : (2 : Int) ≤ (p : Int)
                · have gpd : decide ((2 : Int) ≤ (p : Int)) = true := by simp; omega
                  go_wp2_with fail
                  refine KC.out.mono ?_
                  rintro e w8 ⟨rfl, b8⟩
                  have p8 := (b8.cell (p := ⟨vb, voff + p, none⟩) (Nat.lt_of_lt_of_le hvb7 hb.size)).trans p0
                  have I8 := Lib.hid (IR.out.keep b8)
                  have B8 := Lib.hid b8
                  clear b8 p0 KC
                  go_wp2_with fail
                  go_roundw
                  case rel => exact ⟨p + 1, by go_num, by omega, by have h := HCN.out; congr 1; omega, hb.trans (B8.out.mono hb.size)⟩
                  case measure => simp [intOf]; omega
                · have gpd : decide ((2 : Int) ≤ (p : Int)) = false := by simp; omega
                  go_wp2_with fail
                  refine KC.out.mono ?_
                  rintro e w8 ⟨rfl, b8⟩
                  have p8 := (b8.cell (p := ⟨vb, voff + p, none⟩) (Nat.lt_of_lt_of_le hvb7 hb.size)).trans p0
                  have I8 := Lib.hid (IR.out.keep b8)
                  have B8 := Lib.hid b8
                  clear b8 p0 KC
                  go_wp2_with fail
                  go_roundw
                  case rel => exact ⟨p + 1, by go_num, by omega, by have h := HCN.out; congr 1; omega, hb.trans (B8.out.mono hb.size)⟩
                  case measure => simp [intOf]; omega
            · by_cases hp2 : 2 ≤ p
              · have hU2 := Lib.hid ((g2.out p hp2 hpm1).2 hin)
                have gpq : (hnd p == hnd q) = false := by simp only [beq_eq_false_iff_ne]; exact fun e => hpq (hnd_inj (by omega) (by omega) e)
                have gu : decide ((0 : Int) < (u : Int)) = true := by
                  have h5 := HUL.out
                  have h6 : 0 < U.length := List.length_pos_of_mem hU2.out
                  simp; omega
                have guN : 0 < u := by
                  have h5 := HUL.out
                  have h6 : 0 < U.length := List.length_pos_of_mem hU2.out
                  omega
                have gud : decide (0 < u) = true := by simp; omega
                have gge : decide ((2 : Int) ≤ (p : Int)) = true := by simp; omega
                have g0e : ((p : Int) == 0) = false := by simp; omega
                have wsub : IntKind.i64.wrap ((p : Int) - 2) = (p : Int) - 2 := IntWalk.i64_in _ (by omega)
                go_wp2_with fail
                refine KC.out.mono ?_
                rintro e w8 ⟨rfl, b8⟩
                have p8 := (b8.cell (p := ⟨vb, voff + p, none⟩) (Nat.lt_of_lt_of_le hvb7 hb.size)).trans p0
                have I8 := Lib.hid (IR.out.keep b8)
                have B8 := Lib.hid b8
                clear b8 p0 KC
                go_wp2_with fail
                refine (base_Has c6' ((p : Int) - 2) I8.out).mono ?_
                rintro e w9 ⟨rfl, rfl⟩
                rw [decide_eq_true (hU2.out)]
                go_wp2_with fail
                go_roundw
                case rel => exact ⟨p + 1, by go_num, by omega, by have h := HCN.out; congr 1; omega, hb.trans (B8.out.mono hb.size)⟩
                case measure => simp [intOf]; omega
              · have hp01 : p = 0 := by
                  have h7 : p ≠ 1 := fun e => hpq (by rw [e] at hin; have := g1.out hin; omega)
                  omega
                have hU0 := Lib.hid (g0.out.2 (hp01 ▸ hin))
                have gpq : (hnd p == hnd q) = false := by simp only [beq_eq_false_iff_ne]; exact fun e => hpq (hnd_inj (by omega) (by omega) e)
                have gu : decide ((0 : Int) < (u : Int)) = true := by
                  have h5 := HUL.out
                  have h6 : 0 < U.length := List.length_pos_of_mem hU0.out
                  simp; omega
                have guN : 0 < u := by
                  have h5 := HUL.out
                  have h6 : 0 < U.length := List.length_pos_of_mem hU0.out
                  omega
                have gud : decide (0 < u) = true := by simp; omega
                have gge : decide ((2 : Int) ≤ (p : Int)) = false := by simp; omega
                have g0e : ((p : Int) == 0) = true := by simp; omega
                have wsub : IntKind.i64.wrap ((p : Int) - 2) = (p : Int) - 2 := IntWalk.i64_in _ (by omega)
                replace hp01 := Lib.hid hp01
                go_wp2_with fail
                refine KC.out.mono ?_
                rintro e w8 ⟨rfl, b8⟩
                have p8 := (b8.cell (p := ⟨vb, voff + p, none⟩) (Nat.lt_of_lt_of_le hvb7 hb.size)).trans p0
                have I8 := Lib.hid (IR.out.keep b8)
                have B8 := Lib.hid b8
                clear b8 p0 KC
                go_wp2_with fail
                refine (base_Has c6' 1000 I8.out).mono ?_
                rintro e w9 ⟨rfl, rfl⟩
                rw [decide_eq_true (hU0.out)]
                go_wp2_with fail
                go_roundw
                case rel => exact ⟨p + 1, by go_num, by omega, by have h := HCN.out; congr 1; omega, hb.trans (B8.out.mono hb.size)⟩
                case measure => simp [intOf]; omega
          · rw [if_neg hin] at hfd
            have hpq : p ≠ q := fun e => hin (e ▸ gq.out)
            have hsd : stDel st P (p : Int) = some (1, chS p, 0) := by
              unfold stDel
              rw [if_neg (fun h => hin (in_ints.1 h))]
              exact HSTG.out p hpm1
            have KC := Lib.hid (region_Chunks (hnd p) p (hnd_bd p).1 (hnd_bd p).2 TR.out hfd hsd (by have := chS_len p; omega))
            have HCN := Lib.hid (cntG_out hin)
            clear hfd hsd
            by_cases hu0 : u = 0
            · by_cases hp2 : 2 ≤ p
              · have hU2 := Lib.hid (fun h => hin ((g2.out p hp2 hpm1).1 h))
                have chs : chS p = [(p : Int) - 2] := by unfold chS; rw [if_neg (by omega), if_neg (by omega)]
                have gpq : (hnd p == hnd q) = false := by simp only [beq_eq_false_iff_ne]; exact fun e => hpq (hnd_inj (by omega) (by omega) e)
                have gu : decide ((0 : Int) < (u : Int)) = false := by simp; omega
                have gud : decide (0 < u) = false := by simp; omega
                have guN : ¬ 0 < u := by omega
                have gge : decide ((2 : Int) ≤ (p : Int)) = true := by simp; omega
                have g0e : ((p : Int) == 0) = false := by simp; omega
                have wsub : IntKind.i64.wrap ((p : Int) - 2) = (p : Int) - 2 := IntWalk.i64_in _ (by omega)
                replace hu0 := Lib.hid hu0
                go_wp2_with fail
                refine KC.out.mono ?_
                rintro e w8 ⟨v8, rfl, o8, b8⟩
                obtain ⟨A8, c8, rfl, i8, -⟩ := o8.ints
                rw [chs] at i8 ⊢
                simp only [List.length_cons, List.length_nil] at i8 ⊢
                have p8 := (b8.cell (p := ⟨vb, voff + p, none⟩) (Nat.lt_of_lt_of_le hvb7 hb.size)).trans p0
                have I8 := Lib.hid (IR.out.keep b8)
                have B8 := Lib.hid b8
                have KS : Hid (∀ W, Below w8.heap.size w8 W → Calls Try.prog 45 #[.slice A8 1 c8, .slice (some ⟨W.heap.size, 0, none⟩) 1 1] (W.alloc (.cells #[.int .i64 ((p : Int) - 2)] 3)) fun e w' => e = .returned (.bool true) ∧ Below (W.alloc (.cells #[.int .i64 ((p : Int) - 2)] 3)).heap.size (W.alloc (.cells #[.int .i64 ((p : Int) - 2)] 3)) w') := Lib.hid (fun W hW => by
                  have h1 := base_SameInts c8 1 ((i8.keep hW).keep (bel_alloc (Below.refl W.heap.size W) _)) (IntsAt.mono1 (own_one W ((p : Int) - 2)).intsV)
                  rw [decide_eq_true rfl] at h1
                  exact h1)
                clear b8 o8 i8 p0 KC
                go_wp2_with fail
                refine (KS.out _ (Below.refl _ _)).mono ?_
                rintro e w9 ⟨rfl, b9⟩
                have B9 := Lib.hid (bel_trans B8.out (bel_trans (bel_alloc (Below.refl w8.heap.size w8) _) b9))
                clear b9 KS
                go_wp2_with fail
                go_roundw
                case rel => exact ⟨p + 1, by go_num, by omega, by have h := HCN.out; congr 1; omega, hb.trans (B9.out.mono hb.size)⟩
                case measure => simp [intOf]; omega
              · by_cases hp0 : p = 0
                · have hU0 := Lib.hid (fun h => hin (hp0 ▸ g0.out.1 h))
                  have gpq : (hnd p == hnd q) = false := by simp only [beq_eq_false_iff_ne]; exact fun e => hpq (hnd_inj (by omega) (by omega) e)
                  have gu : decide ((0 : Int) < (u : Int)) = false := by simp; omega
                  have gud : decide (0 < u) = false := by simp; omega
                  have guN : ¬ 0 < u := by omega
                  have gge : decide ((2 : Int) ≤ (p : Int)) = false := by simp; omega
                  have g0e : ((p : Int) == 0) = true := by simp; omega
                  have wsub : IntKind.i64.wrap ((p : Int) - 2) = (p : Int) - 2 := IntWalk.i64_in _ (by omega)
                  replace hp0 := Lib.hid hp0
                  replace hu0 := Lib.hid hu0
                  go_wp2_with fail
                  refine KC.out.mono ?_
                  rintro e w8 ⟨v8, rfl, o8, b8⟩
                  obtain ⟨A8, c8, rfl, i8, -⟩ := o8.ints
                  have p8 := (b8.cell (p := ⟨vb, voff + p, none⟩) (Nat.lt_of_lt_of_le hvb7 hb.size)).trans p0
                  have I8 := Lib.hid (IR.out.keep b8)
                  have B8 := Lib.hid b8
                  clear b8 o8 i8 p0 KC
                  go_wp2_with fail
                  refine (base_Has c6' 1000 I8.out).mono ?_
                  rintro e w9 ⟨rfl, rfl⟩
                  rw [decide_eq_false (hU0.out)]
                  go_wp2_with fail
                  go_roundw
                  case rel => exact ⟨p + 1, by go_num, by omega, by have h := HCN.out; congr 1; omega, hb.trans (B8.out.mono hb.size)⟩
                  case measure => simp [intOf]; omega
                · have hp1 : p = 1 := by omega
                  have gpq : (hnd p == hnd q) = false := by simp only [beq_eq_false_iff_ne]; exact fun e => hpq (hnd_inj (by omega) (by omega) e)
                  have gu : decide ((0 : Int) < (u : Int)) = false := by simp; omega
                  have gud : decide (0 < u) = false := by simp; omega
                  have guN : ¬ 0 < u := by omega
                  have gge : decide ((2 : Int) ≤ (p : Int)) = false := by simp; omega
                  have g0e : ((p : Int) == 0) = false := by simp; omega
                  have wsub : IntKind.i64.wrap ((p : Int) - 2) = (p : Int) - 2 := IntWalk.i64_in _ (by omega)
                  replace hp1 := Lib.hid hp1
                  replace hu0 := Lib.hid hu0
                  go_wp2_with fail
                  refine KC.out.mono ?_
                  rintro e w8 ⟨v8, rfl, o8, b8⟩
                  obtain ⟨A8, c8, rfl, i8, -⟩ := o8.ints
                  have p8 := (b8.cell (p := ⟨vb, voff + p, none⟩) (Nat.lt_of_lt_of_le hvb7 hb.size)).trans p0
                  have I8 := Lib.hid (IR.out.keep b8)
                  have B8 := Lib.hid b8
                  clear b8 o8 i8 p0 KC
                  go_wp2_with fail
                  go_roundw
                  case rel => exact ⟨p + 1, by go_num, by omega, by have h := HCN.out; congr 1; omega, hb.trans (B8.out.mono hb.size)⟩
                  case measure => simp [intOf]; omega
            · by_cases hp2 : 2 ≤ p
              · have hU2 := Lib.hid (fun h => hin ((g2.out p hp2 hpm1).1 h))
                have chs : chS p = [(p : Int) - 2] := by unfold chS; rw [if_neg (by omega), if_neg (by omega)]
                have gpq : (hnd p == hnd q) = false := by simp only [beq_eq_false_iff_ne]; exact fun e => hpq (hnd_inj (by omega) (by omega) e)
                have gu : decide ((0 : Int) < (u : Int)) = true := by simp; omega
                have gud : decide (0 < u) = true := by simp; omega
                have guN : 0 < u := by omega
                have gge : decide ((2 : Int) ≤ (p : Int)) = true := by simp; omega
                have g0e : ((p : Int) == 0) = false := by simp; omega
                have wsub : IntKind.i64.wrap ((p : Int) - 2) = (p : Int) - 2 := IntWalk.i64_in _ (by omega)
                replace hu0 := Lib.hid hu0
                go_wp2_with fail
                refine KC.out.mono ?_
                rintro e w8 ⟨v8, rfl, o8, b8⟩
                obtain ⟨A8, c8, rfl, i8, -⟩ := o8.ints
                rw [chs] at i8 ⊢
                simp only [List.length_cons, List.length_nil] at i8 ⊢
                have p8 := (b8.cell (p := ⟨vb, voff + p, none⟩) (Nat.lt_of_lt_of_le hvb7 hb.size)).trans p0
                have I8 := Lib.hid (IR.out.keep b8)
                have B8 := Lib.hid b8
                have KS : Hid (∀ W, Below w8.heap.size w8 W → Calls Try.prog 45 #[.slice A8 1 c8, .slice (some ⟨W.heap.size, 0, none⟩) 1 1] (W.alloc (.cells #[.int .i64 ((p : Int) - 2)] 3)) fun e w' => e = .returned (.bool true) ∧ Below (W.alloc (.cells #[.int .i64 ((p : Int) - 2)] 3)).heap.size (W.alloc (.cells #[.int .i64 ((p : Int) - 2)] 3)) w') := Lib.hid (fun W hW => by
                  have h1 := base_SameInts c8 1 ((i8.keep hW).keep (bel_alloc (Below.refl W.heap.size W) _)) (IntsAt.mono1 (own_one W ((p : Int) - 2)).intsV)
                  rw [decide_eq_true rfl] at h1
                  exact h1)
                clear b8 o8 i8 p0 KC
                go_wp2_with fail
                refine (base_Has c6' ((p : Int) - 2) I8.out).mono ?_
                rintro e w9 ⟨rfl, rfl⟩
                rw [decide_eq_false (hU2.out)]
                go_wp2_with fail
                refine (KS.out _ (Below.refl _ _)).mono ?_
                rintro e w9 ⟨rfl, b9⟩
                have B9 := Lib.hid (bel_trans B8.out (bel_trans (bel_alloc (Below.refl w8.heap.size w8) _) b9))
                clear b9 KS
                go_wp2_with fail
                go_roundw
                case rel => exact ⟨p + 1, by go_num, by omega, by have h := HCN.out; congr 1; omega, hb.trans (B9.out.mono hb.size)⟩
                case measure => simp [intOf]; omega
              · by_cases hp0 : p = 0
                · have hU0 := Lib.hid (fun h => hin (hp0 ▸ g0.out.1 h))
                  have gpq : (hnd p == hnd q) = false := by simp only [beq_eq_false_iff_ne]; exact fun e => hpq (hnd_inj (by omega) (by omega) e)
                  have gu : decide ((0 : Int) < (u : Int)) = true := by simp; omega
                  have gud : decide (0 < u) = true := by simp; omega
                  have guN : 0 < u := by omega
                  have gge : decide ((2 : Int) ≤ (p : Int)) = false := by simp; omega
                  have g0e : ((p : Int) == 0) = true := by simp; omega
                  have wsub : IntKind.i64.wrap ((p : Int) - 2) = (p : Int) - 2 := IntWalk.i64_in _ (by omega)
                  replace hp0 := Lib.hid hp0
                  replace hu0 := Lib.hid hu0
                  go_wp2_with fail
                  refine KC.out.mono ?_
                  rintro e w8 ⟨v8, rfl, o8, b8⟩
                  obtain ⟨A8, c8, rfl, i8, -⟩ := o8.ints
                  have p8 := (b8.cell (p := ⟨vb, voff + p, none⟩) (Nat.lt_of_lt_of_le hvb7 hb.size)).trans p0
                  have I8 := Lib.hid (IR.out.keep b8)
                  have B8 := Lib.hid b8
                  clear b8 o8 i8 p0 KC
                  go_wp2_with fail
                  refine (base_Has c6' 1000 I8.out).mono ?_
                  rintro e w9 ⟨rfl, rfl⟩
                  rw [decide_eq_false (hU0.out)]
                  go_wp2_with fail
                  go_roundw
                  case rel => exact ⟨p + 1, by go_num, by omega, by have h := HCN.out; congr 1; omega, hb.trans (B8.out.mono hb.size)⟩
                  case measure => simp [intOf]; omega
                · have hp1 : p = 1 := by omega
                  have gpq : (hnd p == hnd q) = false := by simp only [beq_eq_false_iff_ne]; exact fun e => hpq (hnd_inj (by omega) (by omega) e)
                  have gu : decide ((0 : Int) < (u : Int)) = true := by simp; omega
                  have gud : decide (0 < u) = true := by simp; omega
                  have guN : 0 < u := by omega
                  have gge : decide ((2 : Int) ≤ (p : Int)) = false := by simp; omega
                  have g0e : ((p : Int) == 0) = false := by simp; omega
                  have wsub : IntKind.i64.wrap ((p : Int) - 2) = (p : Int) - 2 := IntWalk.i64_in _ (by omega)
                  replace hp1 := Lib.hid hp1
                  replace hu0 := Lib.hid hu0
                  go_wp2_with fail
                  refine KC.out.mono ?_
                  rintro e w8 ⟨v8, rfl, o8, b8⟩
                  obtain ⟨A8, c8, rfl, i8, -⟩ := o8.ints
                  have p8 := (b8.cell (p := ⟨vb, voff + p, none⟩) (Nat.lt_of_lt_of_le hvb7 hb.size)).trans p0
                  have I8 := Lib.hid (IR.out.keep b8)
                  have B8 := Lib.hid b8
                  clear b8 o8 i8 p0 KC
                  go_wp2_with fail
                  go_roundw
                  case rel => exact ⟨p + 1, by go_num, by omega, by have h := HCN.out; congr 1; omega, hb.trans (B8.out.mono hb.size)⟩
                  case measure => simp [intOf]; omega
        · have hpm2 : p = m := by omega
          have KL0 := region_Len ((T7.out.keep hb).keep (bel_alloc (Below.refl wr.heap.size wr) (.cells #[.pointer none, .map none] 120)))
          rw [HF.out.n, cntG_all, ← hpm2] at KL0
          have KL := Lib.hid KL0
          have HZ : Hid (NoT (wr.alloc (.cells #[.pointer none, .map none] 120)) (some ⟨wr.heap.size, 0, none⟩)) := Lib.hid (.inr ⟨wr.heap.size, rfl, ((RowR.new wr 120 [.pointer none, .map none]).cell 1).trans rfl⟩)
          have HBEL := Lib.hid (bel_trans' (T7.out.keep hb).below (bel_alloc (Below.refl wr.heap.size wr) (.cells #[.pointer none, .map none] 120)) (T7.out.keep hb).below.size)
          replace hpm2 := Lib.hid hpm2
          obtain ⟨cn, hcn⟩ : ∃ cn, cntG P p = cn := ⟨_, rfl⟩
          rw [hcn] at KL ⊢
          clear KL0 hb hcn
          go_wp2_with fail
          refine (not_Root 0 (.inl rfl)).mono ?_
          rintro e w8 ⟨rfl, rfl⟩
          go_wp2_with fail
          refine (not_Child (hnd q) HZ.out).mono ?_
          rintro e w8 ⟨rfl, rfl⟩
          go_wp2_with fail
          refine (not_Lay (hnd q) 1 1 64 (.inl rfl)).mono ?_
          rintro e w8 ⟨rfl, rfl⟩
          go_wp2_with fail
          refine (not_Free (hnd q) HZ.out).mono ?_
          rintro e w8 ⟨rfl, rfl⟩
          go_wp2_with fail
          refine KL.out.mono ?_
          rintro e w9 ⟨rfl, b9⟩
          have HZ9 : Hid (NoT w9 (some ⟨wr.heap.size, 0, none⟩)) := Lib.hid (.inr ⟨wr.heap.size, rfl, (b9.cell (p := ⟨wr.heap.size, 1, none⟩) (by simp)).trans (((RowR.new wr 120 [.pointer none, .map none]).cell 1).trans rfl)⟩)
          have HB9 := Lib.hid (bel_trans HBEL.out b9)
          clear b9 HZ HBEL KL
          go_wp2_with fail
          refine (not_Add (hnd q) 1 (.inl rfl)).mono ?_
          rintro e wa ⟨rfl, rfl⟩
          go_wp2_with fail
          refine (not_Of 0 (.inl rfl)).mono ?_
          rintro e wa ⟨rfl, rfl⟩
          go_wp2_with fail
          refine (not_Of 0 HZ9.out).mono ?_
          rintro e wa ⟨rfl, rfl⟩
          go_wp2_with fail
          refine (not_Len (.inl rfl)).mono ?_
          rintro e wa ⟨rfl, rfl⟩
          go_wp2_with fail
          refine (not_Len HZ9.out).mono ?_
          rintro e wa ⟨rfl, rfl⟩
          go_wp2_with fail
          refine (KW.out _).mono ?_
          rintro e wb ⟨rfl, bb⟩
          have HBB := Lib.hid (HB9.out.trans (bb.mono HB9.out.size))
          clear bb
          go_wp2_with fail
          exact bodyPost_ret (v := .bool true) (by simp [results, Try.results16, go_sem]) rfl ⟨rfl, HBB.out⟩
end Go.Proofs.Ytdhcmnbajkpjiaa
/-
  Openers for slices whose elements are rows of ints (arrays, structs, nested ones).
-/
namespace Go.Proofs.Ytdhcmnbajkpjiaa.Fr
open Go.ChangeShapes Go.WideShapes Go.ChangeAt Go.RowKit Go.Deep

section
variable {H : Type} {enc : TypeId × Value → H} {P : Program} {w : World}

/-- A type whose cells are S ints. -/
def FlatInt {H : Type} (enc : TypeId × Value → H) (P : Program) (w : World) (sp : Nat → Bool) (e S : Nat) : Prop :=
  ∀ fuel cs x, DataW.trod enc P w 0 sp true fuel e cs = some x → cs.length = S ∧ ∀ j, j < S → ∃ n : Int, cs[j]? = some (Value.int .i64 n) ∧ -9223372036854775808 ≤ n ∧ n ≤ 9223372036854775807

theorem FlatInt.int {sp : Nat → Bool} {e : Nat} (he : P.underlying e = some (.int .i64)) : FlatInt enc P w sp e 1 := by
  intro fuel cs x h
  obtain ⟨n, rfl, _, hw⟩ := DataW.trod_int he h
  refine ⟨rfl, fun j hj => ?_⟩
  obtain rfl : j = 0 := by omega
  exact ⟨n, rfl, bounds_i64 hw⟩

theorem FlatInt.array {sp : Nat → Bool} {e n it S : Nat} (he : P.underlying e = some (.array n it)) (hi : FlatInt enc P w sp it S) (hS : P.cellsOf it = S) (hc : P.cellsOf e = n * S) (h0 : 0 < S) : FlatInt enc P w sp e (n * S) := by
  intro fuel cs x h
  obtain ⟨xs, m, _, _, hlen, hxl, hg⟩ := DataW.trod_array he h
  refine ⟨hlen.trans hc, fun j hj => ?_⟩
  have hq : j / S < n := Nat.div_lt_of_lt_mul (by rw [Nat.mul_comm]; exact hj)
  have h1 := hg (j / S) hq
  have hx : xs[j / S]? = some (xs[j / S]'(by omega)) := List.getElem?_eq_getElem (by omega)
  rw [hx, hS] at h1
  obtain ⟨_, h2⟩ := hi _ _ _ h1
  obtain ⟨v, hv, hb⟩ := h2 (j % S) (Nat.mod_lt _ h0)
  refine ⟨v, ?_, hb⟩
  rw [List.getElem?_take, if_pos (Nat.mod_lt _ h0), List.getElem?_drop] at hv
  rw [← hv]
  congr 1
  have := Nat.div_add_mod j S
  rw [Nat.mul_comm] at this
  omega

theorem FlatInt.struct {sp : Nat → Bool} {e S : Nat} {fs : Array Field} (he : P.underlying e = some (.struct fs)) (hc : P.cellsOf e = S)
    (hf : ∀ j, j < S → ∃ (i : Nat) (f : Field), fs[i]? = some f ∧ f.offset ≤ j ∧ j < f.offset + P.cellsOf f.type ∧ FlatInt enc P w sp f.type (P.cellsOf f.type)) : FlatInt enc P w sp e S := by
  intro fuel cs x h
  obtain ⟨xs, m, _, _, hlen, hxl, hg⟩ := DataW.trod_struct he h
  refine ⟨hlen.trans hc, fun j hj => ?_⟩
  obtain ⟨i, f, hfi, h1, h2, hfl⟩ := hf j hj
  have hil : i < fs.size := (Array.getElem?_eq_some_iff.1 hfi).1
  have h3 := hg i f hfi
  have hx : xs[i]? = some (xs[i]'(by omega)) := List.getElem?_eq_getElem (by omega)
  rw [hx] at h3
  obtain ⟨_, h4⟩ := hfl _ _ _ h3
  obtain ⟨v, hv, hb⟩ := h4 (j - f.offset) (by omega)
  refine ⟨v, ?_, hb⟩
  rw [List.getElem?_take, if_pos (by omega), List.getElem?_drop] at hv
  rw [← hv]
  congr 1
  omega

/-- What the walk is told of a slice of rows of S ints that came in. -/
def IsRows (w : World) (S : Nat) (a : Option Addr) (len cap : Nat) (F : Nat → Nat → Int) : Prop :=
  (a = none ∧ len = 0 ∧ cap = 0) ∨
  ∃ b off, a = some ⟨b, off, none⟩ ∧ (0 < len → b < w.heap.size) ∧ len ≤ cap ∧ cap ≤ maxLen ∧
    ∀ i, i < cap → ∀ j, j < S → w.cell? ⟨b, off + i * S + j, none⟩ = some (.int .i64 (F i j)) ∧ -9223372036854775808 ≤ F i j ∧ F i j ≤ 9223372036854775807

theorem open_rows {t e S : Nat} {a : Option Addr} {len cap : Nat} {d : DataW H} {ps : List MemPlace} {base : Nat} (ht : P.underlying t = some (.slice e)) (hS : P.cellsOf e = S) (h0 : 0 < S)
    (hfl : FlatInt enc P w (fun _ => true) e S)
    (h : DataW.Trod enc P w 0 (fun _ => true) true t (.slice a len cap) d ps) (hv : Value.okWide P w .any base t (.slice a len cap)) : ∃ F, IsRows w S a len cap F := by
  obtain ⟨fuel, hf⟩ := h
  rcases open_slice ht hf with ⟨hcs, _⟩ | ⟨x, l, c, m, n, D, Pl, hcs, hb, hl, hm, hmm, hx, hi⟩
  · simp [Value.cells] at hcs
    obtain ⟨rfl, rfl, rfl⟩ := hcs
    exact ⟨fun _ _ => 0, .inl ⟨rfl, rfl, rfl⟩⟩
  · simp [Value.cells] at hcs
    obtain ⟨rfl, rfl, rfl⟩ := hcs
    simp only [if_true] at hmm
    subst hmm
    have hsp : x.spot = none := by
      unfold Value.okWide at hv
      rw [ht] at hv
      simp only at hv
      unfold Cell.okWide at hv
      rw [ht] at hv
      simp only at hv
      unfold Cell.ok at hv
      rw [ht] at hv
      simp only at hv
      exact hv.2.2.2.1
    obtain ⟨b, off, spot⟩ := x
    simp only at hsp
    subst hsp
    have key : ∀ i j, i < m → j < S → ∃ v : Int, w.cell? ⟨b, off + i * S + j, none⟩ = some (.int .i64 v) ∧ -9223372036854775808 ≤ v ∧ v ≤ 9223372036854775807 := by
      intro i j him hjS
      obtain ⟨cs', hc, ht'⟩ := hi i him
      rw [hS] at hc
      obtain ⟨hlen, hfj⟩ := hfl _ _ _ ht'
      obtain ⟨v, hv', hb'⟩ := hfj j hjS
      obtain ⟨_, _, hat⟩ := World.cells?_some hc
      have hcell := hat j hjS
      refine ⟨v, ?_, hb'⟩
      rw [← hv', ← hcell]
      congr 1
      simp only [Addr.add]
      split <;> split <;> simp_all [Nat.add_assoc]
    refine ⟨fun i j => match w.cell? ⟨b, off + i * S + j, none⟩ with | some (.int _ n) => n | _ => 0, .inr ⟨b, off, rfl, fun hl0 => ?_, hl, hm, fun i him j hjS => ?_⟩⟩
    · obtain ⟨v, hv', _⟩ := key 0 0 (by omega) h0
      exact World.block_lt_of_cell? _ _ hv'
    · obtain ⟨v, hv', hb'⟩ := key i j him hjS
      simp only [hv']
      exact ⟨trivial, hb'⟩
end
end Go.Proofs.Ytdhcmnbajkpjiaa.Fr
/-
  An opener for a slice of bytes.
-/
namespace Go.Proofs.Ytdhcmnbajkpjiaa.Fr
open Go.ChangeShapes Go.WideShapes Go.ChangeAt Go.RowKit Go.Deep

section
variable {H : Type} {enc : TypeId × Value → H} {P : Program} {w : World}
theorem open_bytes {t e : Nat} {a : Option Addr} {len cap : Nat} {d : DataW H} {ps : List MemPlace} {base : Nat} (ht : P.underlying t = some (.slice e)) (he : P.underlying e = some (.int .u8)) (hS : P.cellsOf e = 1)
    (h : DataW.Trod enc P w 0 (fun _ => true) true t (.slice a len cap) d ps) (hv : Value.okWide P w .any base t (.slice a len cap)) : ∃ xs, BytesAt w a len xs := by
  obtain ⟨fuel, hf⟩ := h
  rcases open_slice ht hf with ⟨hcs, _⟩ | ⟨x, l, c, m, n, D, Pl, hcs, hb, hl, hm, hmm, hx, hi⟩
  · simp [Value.cells] at hcs
    obtain ⟨rfl, rfl, rfl⟩ := hcs
    exact ⟨[], rfl, by omega, by simp, fun h => absurd h (by omega)⟩
  · simp [Value.cells] at hcs
    obtain ⟨rfl, rfl, rfl⟩ := hcs
    simp only [if_true] at hmm
    subst hmm
    have hsp : x.spot = none := by
      unfold Value.okWide at hv
      rw [ht] at hv
      simp only at hv
      unfold Cell.okWide at hv
      rw [ht] at hv
      simp only at hv
      unfold Cell.ok at hv
      rw [ht] at hv
      simp only at hv
      exact hv.2.2.2.1
    obtain ⟨b, off, spot⟩ := x
    simp only at hsp
    subst hsp
    have key : ∀ i, i < m → ∃ v : Int, w.cell? ⟨b, off + i, none⟩ = some (.int .u8 v) ∧ 0 ≤ v ∧ v < 256 := by
      intro i him
      obtain ⟨cs', hc, ht'⟩ := hi i him
      rw [hS] at hc
      obtain ⟨n, rfl, _, hw⟩ := DataW.trod_int he ht'
      obtain ⟨_, _, hat⟩ := World.cells?_some hc
      have hcell := hat 0 (by omega)
      refine ⟨n, ?_, ?_⟩
      · have e : w.cell? ⟨b, off + i, none⟩ = [Value.int .u8 n][0]? := by
          rw [← hcell]
          congr 1
          simp only [Addr.add]
          split <;> simp_all
        rw [e]; rfl
      · have := bounds_u8 hw
        omega
    refine ⟨(List.range len).map (fun i => match w.cell? ⟨b, off + i, none⟩ with | some (.int _ n) => n | _ => 0), by simp, by unfold maxLen at hm; omega, ?_, fun hn => ⟨b, off, rfl, ?_, ?_⟩⟩
    · intro y hy
      obtain ⟨i, hi1, rfl⟩ := List.mem_map.1 hy
      obtain ⟨v, hv', hb'⟩ := key i (by have := List.mem_range.1 hi1; omega)
      simp only [hv']
      exact hb'
    · obtain ⟨v, hv', _⟩ := key 0 (by omega)
      exact World.block_lt_of_cell? _ _ hv'
    · intro i hil
      obtain ⟨v, hv', hb'⟩ := key i (by omega)
      simp [List.getD, hil, hv']
end
end Go.Proofs.Ytdhcmnbajkpjiaa.Fr
