/-
  The frame of a law over a package-level table of names: what its row lists gives the table's cells, and the row's step.
-/
import Derived.Test.YtbgohgligponiaaDoorFrame2
import Derived.Test.YtbgohgligponiaaDoorPhaseC
import Derived.Deep.DeepHandedRow
import Derived.Lib.LaidTab
namespace Go.Proofs.YtbgohgligponiaaDoor.Fr
open Go.ChangeShapes Go.WideShapes Go.ChangeAt Go.RowKit Go.Deep
open Go.ChangeMaps (open_string shut_string)
set_option linter.unusedVariables false

theorem gTab : Tryd.prog.globalNamed "copyhold/phase.names" = some 0 := by kernel_rfl
theorem gTabType : (Tryd.prog.globals[0]?).map (·.type) = some 39 := by kernel_rfl
theorem cellsS : Tryd.prog.cellsOf 9 = 1 := by kernel_rfl

theorem bytes_of {s : ByteArray} {l : List UInt8} (h : s.data.toList = l) : s = ⟨l.toArray⟩ := ByteArray.ext (by rw [← h])

/-- WHAT THE ROW's LIST GIVES. -/
theorem tab_of {W : World} (h : laidMet Tryd.prog [("copyhold/phase.names", Rows.laid_copyhold_phase_names)] W) : Tab W := by
  obtain ⟨ps, ⟨g', t', cs, fuel, p, q, hg', ht', hvar, hd, _, _⟩, _⟩ := h
  obtain rfl := Option.some.inj (gTab.symm.trans hg')
  obtain rfl := Option.some.inj (gTabType.symm.trans ht')
  obtain ⟨xs, m, _, hx, hlen, hxl, hg⟩ := DataW.trod_array Tryd.underlying39 hd
  rw [cellsS] at hg
  have hx1 : xs.map (·.1) = [.lit (.string [102, 114, 101, 101]), .lit (.string [111, 119, 110, 101, 100]), .lit (.string [100, 101, 102, 101, 114, 114, 101, 100]), .lit (.string [119, 105, 112, 105, 110, 103])] := by
    have := congrArg Prod.fst hx
    unfold Rows.laid_copyhold_phase_names at this
    simpa using this.symm
  have key : ∀ (i : Nat) (l : List UInt8), i < 4 → (xs.map (·.1))[i]? = some (.lit (.string l)) → W.cell? ⟨0, i, none⟩ = some (.string ⟨l.toArray⟩) := by
    intro i l hi hl
    rw [List.getElem?_map, Option.map_eq_some_iff] at hl
    obtain ⟨y, hy, hyl⟩ := hl
    have h1 := hg i hi
    rw [hy] at h1
    obtain ⟨s, hs, rfl, _⟩ := DataW.trod_string Tryd.underlying9 h1
    simp only [DataW.lit.injEq, Lit.string.injEq] at hyl
    rw [World.var?_cell gTab hvar i, ← bytes_of hyl]
    have := congrArg (·[0]?) hs
    simpa [List.getElem?_take, List.getElem?_drop] using this
  refine ⟨key 0 _ (by omega) (by rw [hx1]; rfl), key 1 _ (by omega) (by rw [hx1]; rfl), key 2 _ (by omega) (by rw [hx1]; rfl), key 3 _ (by omega) (by rw [hx1]; rfl), ?_⟩
  have h0 := key 0 _ (by omega) (by rw [hx1]; rfl)
  rcases Nat.eq_zero_or_pos W.heap.size with hz | hz
  · have hn : W.heap[0]? = none := by simp [hz]
    simp [World.cell?, hn] at h0
  · exact hz

theorem ints_of_rows {w : World} {a : Option Addr} {len cap : Nat} {F : Nat → Nat → Int} (h : IsRows w 1 a len cap F) : IsInts w a len cap (fun i => F i 0) := by
  rcases h with h | ⟨b, off, rfl, hbw, hlc, hm, hcell⟩
  · exact Or.inl h
  · unfold maxLen at hm
    refine Or.inr ⟨b, off, rfl, hbw, by omega, fun i hi => ?_⟩
    have := hcell i (by omega) 0 (by omega)
    simpa only [Nat.mul_one, Nat.add_zero] using this

section
variable {H : Type} {enc : TypeId × Value → H}
/-- THE ROW's STEP OF A LAW WHOSE ROW LISTS VARIABLES. -/
theorem liftedRow {C : Checked} {os : Os} {f : FuncId} {fn : Func} {s : ChangeSpec} {F : Stop.Interp} {laid : List (String × DataW Unit)} (bt : TypeId) (n : Nat)
    (own : ownKnob C.prog.godebug = none) (started : os.Started) (noInit : C.prog.inits.idxOf? f = none) (hfn : C.prog.funcs[f]? = some fn)
    (witness : ∃ (w : World) (tape : Tape) (i : Input), w.os = os ∧ (w.forCall tape i).Shaped C.prog ∧ i.vars = [] ∧ Input.okWide C.prog (w.forCall tape i) .any w.heap.size f i ∧
      (OpenSpec.ofChange s).preRow enc C.prog fn [] false laid (w.forCall tape i).memory i.args ∧ ({} : Assume).holds C.prog (lone (Frame.enter C.prog f i.args .normal) [] (w.forCall tape i)))
    (hs : s.vars = []) (hn : fn.params.size = n)
    (hfnc : ∀ ds : List (DataW H), ds.length = n → (s.fn H ds).results = [.lit (.bool true)] ∧ (s.fn H ds).args = ds ∧ (s.fn H ds).vars = [])
    (hres : fn.resultTypes = #[bt]) (hb : C.prog.underlying bt = some .bool)
    (hl : laidOutB C.prog = true) (hp : fn.params.toList.all (fun t => C.prog.readableRec t && decide (t < C.prog.types.size)) = true)
    (walk : ∀ (W : World) (args : Array Value) (ds : List (DataW H)) (ps : List MemPlace) (base : Nat),
      (∀ (j : Nat) t v, fn.params[j]? = some t → args[j]? = some v → Value.okWide C.prog W .any base t v) →
      DataW.TrodAll enc C.prog W 0 (fun _ => true) true fn.params.toList args.toList ds ps → laidMetH C.prog laid W →
      Calls C.prog f args W fun e W' => e = .returned (.bool true) ∧ Below W.heap.size W W') :
    ReturnsInHanded {} C os f .any ((OpenSpec.ofChange s).preRow enc C.prog fn [] false laid) (((OpenSpec.ofChange s).at F).post enc C.prog fn false true false false) := by
  refine returnsInHanded_of_row (s := OpenSpec.ofChange s) own started noInit hfn witness ?_
  intro W base args ds gs before hval hW _ _ _ hL _ _
  show Calls C.prog f args W fun e W' => ∃ v, e = .returned v ∧ s.post enc C.prog fn false true false false W args v W'
  have hW0 : DataW.Whole enc C.prog fn.params.toList s.vars false W args.toList ds gs before := hW
  have hW' := hW0
  obtain ⟨p, q, hA, hV, rfl, hfz, hnd⟩ := hW0
  rw [hs] at hV
  obtain ⟨rfl, rfl⟩ := trodVars_none hV
  have hlen : ds.length = n := by rw [trodAll_len _ _ _ _ hA, ← hn]; simp
  have hp' : ∀ t ∈ fn.params.toList, C.prog.readableRec t = true ∧ t < C.prog.types.size := by
    intro t ht
    have := List.all_eq_true.1 hp t ht
    simpa using this
  obtain ⟨e1, e2, e3⟩ := hfnc (ds ++ []) (by simpa using hlen)
  refine (walk W args ds p base hval hA hL).mono fun e W' ⟨he, bel⟩ => ?_
  subst he
  refine ⟨_, rfl, ds, [], p ++ [], [], p, [], hW', ?_, ?_, ?_, bel.frame _, fun h => by cases h⟩
  · rw [e1, hres]
    exact trodAll_mk1 (shut_bool hb _)
  · rw [e2, List.append_nil]
    exact trodAll_below hl bel _ hp' _ _ _ hA
  · rw [hs, e3]
    rfl
end
end Go.Proofs.YtbgohgligponiaaDoor.Fr
