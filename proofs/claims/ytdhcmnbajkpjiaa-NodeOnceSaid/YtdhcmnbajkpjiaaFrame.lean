/-
  The frame of a law's proof, over any program: from a walk that returns true and leaves all old memory as it was, to the row's step. And openers for arguments.
-/
import Derived.Test.YtdhcmnbajkpjiaaRows
import Derived.WalkKit
import Derived.ProofKit
import Derived.OpenShut
import Derived.ShutString
import Derived.ChangeOld
import Derived.Below
import Derived.Deep.Slices
namespace Go.Proofs.Ytdhcmnbajkpjiaa.Fr
open Go.ChangeShapes Go.WideShapes Go.ChangeAt Go.RowKit Go.Deep
open Go.ChangeMaps (open_string shut_string)

section
variable {H : Type} {enc : TypeId × Value → H} {P : Program}

theorem trodAll_below (hl : laidOutB P = true) {W W' : World} (hb : Below W.heap.size W W') :
    ∀ (ts : List TypeId), (∀ t ∈ ts, P.readableRec t = true ∧ t < P.types.size) → ∀ (vs : List Value) (ds : List (DataW H)) (ps : List MemPlace),
      DataW.TrodAll enc P W 0 (fun _ => true) true ts vs ds ps →
      DataW.TrodAll enc P W' 0 (fun b => decide (b < W.heap.size)) true ts vs ds ps
  | [], _, vs, ds, ps, h => by
    obtain ⟨rfl, rfl, rfl⟩ := trodAll_nil h
    exact trodAll_mk0
  | t :: ts, hr, vs, ds, ps, h => by
    obtain ⟨v, vs', d, ds', p, q, rfl, rfl, rfl, h0, h1⟩ := trodAll_cons h
    have hlt : ∀ x ∈ p, x.block < W.heap.size := by obtain ⟨m, hm⟩ := h0; exact DataW.trod_lt m _ _ _ hm
    exact trodAll_cons_mk (Below.trod hl (hr t (by simp)).1 (hr t (by simp)).2 h0 hb hlt)
      (trodAll_below hl hb ts (fun t' ht' => hr t' (by simp [ht'])) vs' ds' q h1)

theorem trodAll_len {W : World} {base : Nat} {sp : Nat → Bool} {hd : Bool} : ∀ (ts : List TypeId) (vs : List Value) (ds : List (DataW H)) (ps : List MemPlace),
    DataW.TrodAll enc P W base sp hd ts vs ds ps → ds.length = ts.length
  | [], vs, ds, ps, h => by
    obtain ⟨_, rfl, _⟩ := trodAll_nil h
    rfl
  | t :: ts, vs, ds, ps, h => by
    obtain ⟨v, vs', d, ds', p, q, rfl, rfl, rfl, h0, h1⟩ := trodAll_cons h
    simp [trodAll_len ts vs' ds' q h1]

/-- THE ROW's STEP OF A LAW. -/
theorem lifted {C : Checked} {os : Os} {f : FuncId} {fn : Func} {s : ChangeSpec} (bt : TypeId) (n : Nat)
    (own : ownKnob C.prog.godebug = none) (started : os.Started) (noInit : C.prog.inits.idxOf? f = none) (hfn : C.prog.funcs[f]? = some fn)
    (witness : ∃ (w : World) (tape : Tape) (i : Input), w.os = os ∧ (w.forCall tape i).Shaped C.prog ∧ i.vars = [] ∧ Input.okWide C.prog (w.forCall tape i) .any w.heap.size f i ∧
      s.pre6 enc C.prog fn [] false (w.forCall tape i).memory i.args ∧ ({} : Assume).holds C.prog (lone (Frame.enter C.prog f i.args .normal) [] (w.forCall tape i)))
    (hs : s.vars = []) (hn : fn.params.size = n)
    (hfnc : ∀ ds : List (DataW H), ds.length = n → (s.fn H ds).results = [.lit (.bool true)] ∧ (s.fn H ds).args = ds ∧ (s.fn H ds).vars = [])
    (hres : fn.resultTypes = #[bt]) (hb : C.prog.underlying bt = some .bool)
    (hl : laidOutB C.prog = true) (hp : fn.params.toList.all (fun t => C.prog.readableRec t && decide (t < C.prog.types.size)) = true)
    (walk : ∀ (W : World) (args : Array Value) (ds : List (DataW H)) (ps : List MemPlace) (base : Nat),
      (∀ (j : Nat) t v, fn.params[j]? = some t → args[j]? = some v → Value.okWide C.prog W .any base t v) →
      DataW.TrodAll enc C.prog W 0 (fun _ => true) true fn.params.toList args.toList ds ps →
      Calls C.prog f args W fun e W' => e = .returned (.bool true) ∧ Below W.heap.size W W') :
    ReturnsInHanded {} C os f .any (s.pre6 enc C.prog fn [] false) (s.post enc C.prog fn false true false false) := by
  refine returnsInHanded_of_change own started noInit hfn witness ?_
  intro W base args ds gs before hval hW _ _
  have hW' := hW
  obtain ⟨p, q, hA, hV, rfl, hfz, hnd⟩ := hW
  rw [hs] at hV
  obtain ⟨rfl, rfl⟩ := trodVars_none hV
  have hlen : ds.length = n := by rw [trodAll_len _ _ _ _ hA, ← hn]; simp
  have hp' : ∀ t ∈ fn.params.toList, C.prog.readableRec t = true ∧ t < C.prog.types.size := by
    intro t ht
    have := List.all_eq_true.1 hp t ht
    simpa using this
  obtain ⟨e1, e2, e3⟩ := hfnc (ds ++ []) (by simpa using hlen)
  refine (walk W args ds p base hval hA).mono fun e W' ⟨he, bel⟩ => ?_
  subst he
  refine ⟨_, rfl, ds, [], p ++ [], [], p, [], hW', ?_, ?_, ?_, bel.frame _, fun h => by cases h⟩
  · rw [e1, hres]
    exact trodAll_mk1 (shut_bool hb _)
  · rw [e2, List.append_nil]
    exact trodAll_below hl bel _ hp' _ _ _ hA
  · rw [hs, e3]
    rfl
end

/-! ### openers -/
theorem list_2 {l : List Int} (h : l.length = 2) : ∃ x0 x1 : Int, l = [x0, x1] := by
  match l, h with
  | [x0, x1], _ => exact ⟨x0, x1, rfl⟩
theorem list_3 {l : List Int} (h : l.length = 3) : ∃ x0 x1 x2 : Int, l = [x0, x1, x2] := by
  match l, h with
  | [x0, x1, x2], _ => exact ⟨x0, x1, x2, rfl⟩
theorem list_4 {l : List Int} (h : l.length = 4) : ∃ x0 x1 x2 x3 : Int, l = [x0, x1, x2, x3] := by
  match l, h with
  | [x0, x1, x2, x3], _ => exact ⟨x0, x1, x2, x3, rfl⟩
theorem list_5 {l : List Int} (h : l.length = 5) : ∃ x0 x1 x2 x3 x4 : Int, l = [x0, x1, x2, x3, x4] := by
  match l, h with
  | [x0, x1, x2, x3, x4], _ => exact ⟨x0, x1, x2, x3, x4, rfl⟩
theorem list_6 {l : List Int} (h : l.length = 6) : ∃ x0 x1 x2 x3 x4 x5 : Int, l = [x0, x1, x2, x3, x4, x5] := by
  match l, h with
  | [x0, x1, x2, x3, x4, x5], _ => exact ⟨x0, x1, x2, x3, x4, x5, rfl⟩
section
variable {P : Program} {W : World} {base : Nat}

/-- A struct or an array whose cells are all integers of one kind, by value: out of the form alone. -/
theorem flat_ints {t n it : Nat} {k : IntKind} {v : Value} (hst : (∃ fs, P.underlying t = some (.struct fs)) ∨ ∃ m e, P.underlying t = some (.array m e))
    (hct : P.cellTypes P.depth t = some (List.replicate n it)) (hc : P.cellsOf t = n) (hit : P.underlying it = some (.int k)) (h : Value.okWide P W .any base t v) :
    ∃ xs : List Int, xs.length = n ∧ v = .agg (xs.map (Value.int k)).toArray ∧ ∀ x ∈ xs, k.min ≤ x ∧ x ≤ k.max := by
  have h' : ∃ cs, v = .agg cs ∧ cs.size = P.cellsOf t ∧ Row.okWide P W .any base t cs := by
    rcases hst with ⟨fs, hu⟩ | ⟨m, e, hu⟩ <;> simpa [Value.okWide, hu] using h
  obtain ⟨cs, rfl, hsz, ts, hts, _, hcell⟩ := h'
  rw [hct] at hts
  obtain rfl : List.replicate n it = ts := Option.some.inj hts
  have key : ∀ (i : Nat) (u : Value), cs[i]? = some u → ∃ x : Int, u = Value.int k x ∧ k.min ≤ x ∧ x ≤ k.max := by
    intro i u hu
    obtain ⟨t', ht', hok⟩ := hcell i u hu
    have e : t' = it := by
      have := List.mem_of_getElem? ht'
      exact List.eq_of_mem_replicate this
    subst e
    unfold Cell.okWide at hok
    rw [hit] at hok
    unfold Cell.ok at hok
    rw [hit] at hok
    cases u <;> simp_all [IntKind.has]
  refine ⟨cs.toList.map intOf, by simp [hsz, hc], ?_, ?_⟩
  · congr 1
    apply Array.ext_getElem?
    intro i
    rcases hu : cs[i]? with _ | u
    · simp [hu]
    · obtain ⟨x, rfl, _⟩ := key i u hu
      simp [hu, intOf]
  · intro x hx
    obtain ⟨u, hu, rfl⟩ := List.mem_map.1 hx
    obtain ⟨i, hi, e⟩ := List.mem_iff_getElem.1 hu
    obtain ⟨y, rfl, hy⟩ := key i u (by rw [← e]; simp)
    exact hy
end
end Go.Proofs.Ytdhcmnbajkpjiaa.Fr
