/- Part 1 of the proof of GrantParts: lemmas, each with its conditions ahead of it. -/
import Derived.Test.YthmjbfocpdiikaaRows
import Derived.WalkKit
import Derived.ProofKit
import Derived.OpenShut
import Derived.ShutString
import Derived.ChangeOld
import Derived.Below
import Derived.Deep.Slices
import Derived.KernelRfl
import Derived.Lib.Hide
import Derived.Lib.SmallJoins
import Derived.Test.YthmjbfocpdiikaaProg
import Derived.Outline
import Derived.BigQuiet
import Derived.Deep.QuietTactic
import Derived.RegionTactic
import Derived.ChangeAlike
import Derived.Maps.AppendAt
import Derived.Deep.AppendLies
import Derived.OwnWalk
/-
  The frame of a law's proof, over any program: from a walk that returns true and leaves all old memory as it was, to the row's step. And openers for arguments.
-/
namespace Go.Proofs.Ythmjbfocpdiikaa.Fr
open Go.ChangeShapes Go.WideShapes Go.ChangeAt Go.RowKit Go.Deep
open Go.ChangeMaps (open_string shut_string)

section
variable {H : Type} {enc : TypeId × Value → H} {P : Program}

theorem trodAll_below (hl : laidOutB P = true) {W W' : World} (hb : Below W.heap.size W W') :
    ∀ (ts : List TypeId), (∀ t ∈ ts, P.readableRec t = true ∧ t < P.types.size) → ∀ (vs : List Value) (ds : List (DataW H)) (ps : List MemPlace),
      DataW.TrodAll enc P W 0 (fun _ => true) true ts vs ds ps →
      DataW.TrodAll enc P W' 0 (fun b => decide (b < W.heap.size)) true ts vs ds ps
  | [], _, vs, ds, ps, h => by
    obtain ⟨rfl, rfl, rfl⟩ := trodAll_nil h
    exact trodAll_mk0
  | t :: ts, hr, vs, ds, ps, h => by
    obtain ⟨v, vs', d, ds', p, q, rfl, rfl, rfl, h0, h1⟩ := trodAll_cons h
    have hlt : ∀ x ∈ p, x.block < W.heap.size := by obtain ⟨m, hm⟩ := h0; exact DataW.trod_lt m _ _ _ hm
    exact trodAll_cons_mk (Below.trod hl (hr t (by simp)).1 (hr t (by simp)).2 h0 hb hlt)
      (trodAll_below hl hb ts (fun t' ht' => hr t' (by simp [ht'])) vs' ds' q h1)

theorem trodAll_len {W : World} {base : Nat} {sp : Nat → Bool} {hd : Bool} : ∀ (ts : List TypeId) (vs : List Value) (ds : List (DataW H)) (ps : List MemPlace),
    DataW.TrodAll enc P W base sp hd ts vs ds ps → ds.length = ts.length
  | [], vs, ds, ps, h => by
    obtain ⟨_, rfl, _⟩ := trodAll_nil h
    rfl
  | t :: ts, vs, ds, ps, h => by
    obtain ⟨v, vs', d, ds', p, q, rfl, rfl, rfl, h0, h1⟩ := trodAll_cons h
    simp [trodAll_len ts vs' ds' q h1]

/-- THE ROW's STEP OF A LAW. -/
theorem lifted {C : Checked} {os : Os} {f : FuncId} {fn : Func} {s : ChangeSpec} (bt : TypeId) (n : Nat)
    (own : ownKnob C.prog.godebug = none) (started : os.Started) (noInit : C.prog.inits.idxOf? f = none) (hfn : C.prog.funcs[f]? = some fn)
    (witness : ∃ (w : World) (tape : Tape) (i : Input), w.os = os ∧ (w.forCall tape i).Shaped C.prog ∧ i.vars = [] ∧ Input.okWide C.prog (w.forCall tape i) .any w.heap.size f i ∧
      s.pre6 enc C.prog fn [] false (w.forCall tape i).memory i.args ∧ ({} : Assume).holds C.prog (lone (Frame.enter C.prog f i.args .normal) [] (w.forCall tape i)))
    (hs : s.vars = []) (hn : fn.params.size = n)
    (hfnc : ∀ ds : List (DataW H), ds.length = n → (s.fn H ds).results = [.lit (.bool true)] ∧ (s.fn H ds).args = ds ∧ (s.fn H ds).vars = [])
    (hres : fn.resultTypes = #[bt]) (hb : C.prog.underlying bt = some .bool)
    (hl : laidOutB C.prog = true) (hp : fn.params.toList.all (fun t => C.prog.readableRec t && decide (t < C.prog.types.size)) = true)
    (walk : ∀ (W : World) (args : Array Value) (ds : List (DataW H)) (ps : List MemPlace) (base : Nat),
      (∀ (j : Nat) t v, fn.params[j]? = some t → args[j]? = some v → Value.okWide C.prog W .any base t v) →
      DataW.TrodAll enc C.prog W 0 (fun _ => true) true fn.params.toList args.toList ds ps →
      Calls C.prog f args W fun e W' => e = .returned (.bool true) ∧ Below W.heap.size W W') :
    ReturnsInHanded {} C os f .any (s.pre6 enc C.prog fn [] false) (s.post enc C.prog fn false true false false) := by
  refine returnsInHanded_of_change own started noInit hfn witness ?_
  intro W base args ds gs before hval hW _ _
  have hW' := hW
  obtain ⟨p, q, hA, hV, rfl, hfz, hnd⟩ := hW
  rw [hs] at hV
  obtain ⟨rfl, rfl⟩ := trodVars_none hV
  have hlen : ds.length = n := by rw [trodAll_len _ _ _ _ hA, ← hn]; simp
  have hp' : ∀ t ∈ fn.params.toList, C.prog.readableRec t = true ∧ t < C.prog.types.size := by
    intro t ht
    have := List.all_eq_true.1 hp t ht
    simpa using this
  obtain ⟨e1, e2, e3⟩ := hfnc (ds ++ []) (by simpa using hlen)
  refine (walk W args ds p base hval hA).mono fun e W' ⟨he, bel⟩ => ?_
  subst he
  refine ⟨_, rfl, ds, [], p ++ [], [], p, [], hW', ?_, ?_, ?_, bel.frame _, fun h => by cases h⟩
  · rw [e1, hres]
    exact trodAll_mk1 (shut_bool hb _)
  · rw [e2, List.append_nil]
    exact trodAll_below hl bel _ hp' _ _ _ hA
  · rw [hs, e3]
    rfl
end

/-! ### openers -/
theorem list_2 {l : List Int} (h : l.length = 2) : ∃ x0 x1 : Int, l = [x0, x1] := by
  match l, h with
  | [x0, x1], _ => exact ⟨x0, x1, rfl⟩
theorem list_3 {l : List Int} (h : l.length = 3) : ∃ x0 x1 x2 : Int, l = [x0, x1, x2] := by
  match l, h with
  | [x0, x1, x2], _ => exact ⟨x0, x1, x2, rfl⟩
theorem list_4 {l : List Int} (h : l.length = 4) : ∃ x0 x1 x2 x3 : Int, l = [x0, x1, x2, x3] := by
  match l, h with
  | [x0, x1, x2, x3], _ => exact ⟨x0, x1, x2, x3, rfl⟩
theorem list_5 {l : List Int} (h : l.length = 5) : ∃ x0 x1 x2 x3 x4 : Int, l = [x0, x1, x2, x3, x4] := by
  match l, h with
  | [x0, x1, x2, x3, x4], _ => exact ⟨x0, x1, x2, x3, x4, rfl⟩
theorem list_6 {l : List Int} (h : l.length = 6) : ∃ x0 x1 x2 x3 x4 x5 : Int, l = [x0, x1, x2, x3, x4, x5] := by
  match l, h with
  | [x0, x1, x2, x3, x4, x5], _ => exact ⟨x0, x1, x2, x3, x4, x5, rfl⟩
section
variable {P : Program} {W : World} {base : Nat}

/-- A struct or an array whose cells are all integers of one kind, by value: out of the form alone. -/
theorem flat_ints {t n it : Nat} {k : IntKind} {v : Value} (hst : (∃ fs, P.underlying t = some (.struct fs)) ∨ ∃ m e, P.underlying t = some (.array m e))
    (hct : P.cellTypes P.depth t = some (List.replicate n it)) (hc : P.cellsOf t = n) (hit : P.underlying it = some (.int k)) (h : Value.okWide P W .any base t v) :
    ∃ xs : List Int, xs.length = n ∧ v = .agg (xs.map (Value.int k)).toArray ∧ ∀ x ∈ xs, k.min ≤ x ∧ x ≤ k.max := by
  have h' : ∃ cs, v = .agg cs ∧ cs.size = P.cellsOf t ∧ Row.okWide P W .any base t cs := by
    rcases hst with ⟨fs, hu⟩ | ⟨m, e, hu⟩ <;> simpa [Value.okWide, hu] using h
  obtain ⟨cs, rfl, hsz, ts, hts, _, hcell⟩ := h'
  rw [hct] at hts
  obtain rfl : List.replicate n it = ts := Option.some.inj hts
  have key : ∀ (i : Nat) (u : Value), cs[i]? = some u → ∃ x : Int, u = Value.int k x ∧ k.min ≤ x ∧ x ≤ k.max := by
    intro i u hu
    obtain ⟨t', ht', hok⟩ := hcell i u hu
    have e : t' = it := by
      have := List.mem_of_getElem? ht'
      exact List.eq_of_mem_replicate this
    subst e
    unfold Cell.okWide at hok
    rw [hit] at hok
    unfold Cell.ok at hok
    rw [hit] at hok
    cases u <;> simp_all [IntKind.has]
  refine ⟨cs.toList.map intOf, by simp [hsz, hc], ?_, ?_⟩
  · congr 1
    apply Array.ext_getElem?
    intro i
    rcases hu : cs[i]? with _ | u
    · simp [hu]
    · obtain ⟨x, rfl, _⟩ := key i u hu
      simp [hu, intOf]
  · intro x hx
    obtain ⟨u, hu, rfl⟩ := List.mem_map.1 hx
    obtain ⟨i, hi, e⟩ := List.mem_iff_getElem.1 hu
    obtain ⟨y, rfl, hy⟩ := key i u (by rw [← e]; simp)
    exact hy
end
end Go.Proofs.Ythmjbfocpdiikaa.Fr
/-
  Accounts, as numbers: plain arithmetic.
-/
namespace Go.Proofs.Ythmjbfocpdiikaa.PA

def right (c h r : Int) : Bool := decide (1 ≤ c) && decide (c ≤ 1048576) && decide (0 ≤ h) && decide (0 ≤ r) && decide (h + r ≤ c)
theorem right_iff (c h r : Int) : right c h r = true ↔ 1 ≤ c ∧ c ≤ 1048576 ∧ 0 ≤ h ∧ 0 ≤ r ∧ h + r ≤ c := by
  simp only [right, Bool.and_eq_true, decide_eq_true_eq]; omega
theorem right_no (c h r : Int) : right c h r = false ↔ ¬ (1 ≤ c ∧ c ≤ 1048576 ∧ 0 ≤ h ∧ 0 ≤ r ∧ h + r ≤ c) := by
  rw [← right_iff]; simp

/-- 1 Reserve, 2 Grant, 3 Cancel, 4 Give: the account behind it, and what is wrong. -/
def doo (call c h r n : Int) : (Int × Int × Int) × Int :=
  if right c h r = false ∨ n < 1 then ((0, 0, 0), 2)
  else if call = 1 then (if c - h - r < n then ((0, 0, 0), 7) else ((c, h, r + n), 0))
  else if call = 4 then (if h < n then ((0, 0, 0), 20) else ((c, h - n, r), 0))
  else if r < n then ((0, 0, 0), 20)
  else if call = 2 then ((c, h + n, r - n), 0)
  else ((c, h, r - n), 0)
theorem doo_arg {call c h r n : Int} (hh : right c h r = false ∨ n < 1) : doo call c h r n = ((0, 0, 0), 2) := by unfold doo; rw [if_pos hh]
theorem doo1_no {c h r n : Int} (h1 : right c h r = true) (h2 : 1 ≤ n) (h3 : c - h - r < n) : doo 1 c h r n = ((0, 0, 0), 7) := by
  unfold doo; rw [if_neg (by rw [h1]; simp; omega), if_pos rfl, if_pos h3]
theorem doo1_yes {c h r n : Int} (h1 : right c h r = true) (h2 : 1 ≤ n) (h3 : n ≤ c - h - r) : doo 1 c h r n = ((c, h, r + n), 0) := by
  unfold doo; rw [if_neg (by rw [h1]; simp; omega), if_pos rfl, if_neg (by omega)]
theorem doo4_no {c h r n : Int} (h1 : right c h r = true) (h2 : 1 ≤ n) (h3 : h < n) : doo 4 c h r n = ((0, 0, 0), 20) := by
  unfold doo; rw [if_neg (by rw [h1]; simp; omega), if_neg (by omega), if_pos rfl, if_pos h3]
theorem doo4_yes {c h r n : Int} (h1 : right c h r = true) (h2 : 1 ≤ n) (h3 : n ≤ h) : doo 4 c h r n = ((c, h - n, r), 0) := by
  unfold doo; rw [if_neg (by rw [h1]; simp; omega), if_neg (by omega), if_pos rfl, if_neg (by omega)]
theorem doo2_no {c h r n : Int} (h1 : right c h r = true) (h2 : 1 ≤ n) (h3 : r < n) : doo 2 c h r n = ((0, 0, 0), 20) := by
  unfold doo; rw [if_neg (by rw [h1]; simp; omega), if_neg (by omega), if_neg (by omega), if_pos h3]
theorem doo2_yes {c h r n : Int} (h1 : right c h r = true) (h2 : 1 ≤ n) (h3 : n ≤ r) : doo 2 c h r n = ((c, h + n, r - n), 0) := by
  unfold doo; rw [if_neg (by rw [h1]; simp; omega), if_neg (by omega), if_neg (by omega), if_neg (by omega), if_pos rfl]
theorem doo3_no {c h r n : Int} (h1 : right c h r = true) (h2 : 1 ≤ n) (h3 : r < n) : doo 3 c h r n = ((0, 0, 0), 20) := by
  unfold doo; rw [if_neg (by rw [h1]; simp; omega), if_neg (by omega), if_neg (by omega), if_pos h3]
theorem doo3_yes {c h r n : Int} (h1 : right c h r = true) (h2 : 1 ≤ n) (h3 : n ≤ r) : doo 3 c h r n = ((c, h, r - n), 0) := by
  unfold doo; rw [if_neg (by rw [h1]; simp; omega), if_neg (by omega), if_neg (by omega), if_neg (by omega), if_neg (by omega)]
def need (c h r : Int) : Int := if right c h r then c - h else 0
def room (c h r : Int) : Int := if right c h r then c - h - r else 0
def new (n : Int) : (Int × Int × Int) × Int := if n < 1 ∨ 1048576 < n then ((0, 0, 0), 2) else ((n, 0, 0), 0)
end Go.Proofs.Ythmjbfocpdiikaa.PA
/-
  Small lemmas on worlds for the walks: what a call leaves as it was.
-/
namespace Go.Proofs.Ythmjbfocpdiikaa
open Go.RowKit

theorem bel_alloc {a w : World} (h : Below a.heap.size a w) (o : Obj) : Below a.heap.size a (w.alloc o) := h.alloc h.size o
theorem bel_drew {a w : World} (h : Below a.heap.size a w) : Below a.heap.size a w.drew := h.drew
theorem bel_drewN {a w : World} (h : Below a.heap.size a w) (n : Nat) : Below a.heap.size a (w.drewN n) := ⟨h.os, h.tape, h.output, h.size, h.block⟩
theorem bel_set {a w : World} (h : Below a.heap.size a w) {p : Addr} (hp : a.heap.size ≤ p.block) (u : Value) : Below a.heap.size a (w.setCell p u) := h.setCell hp u
theorem bel_trans {a w w' : World} (h : Below a.heap.size a w) (k : Below w.heap.size w w') : Below a.heap.size a w' := h.trans (k.mono h.size)
theorem bel_trans' {a w w' : World} {B : Nat} (h : Below a.heap.size a w) (k : Below B w w') (hB : a.heap.size ≤ B) : Below a.heap.size a w' := h.trans (k.mono hB)
/-- What a world behind a call gives the walk: old cells and old marks read as before. -/
theorem bel_cells {W w1 : World} (hb : Below W.heap.size W w1) :
    (∀ b o, b < W.heap.size → w1.cell? ⟨b, o, none⟩ = W.cell? ⟨b, o, none⟩) ∧ (∀ b o, b < W.heap.size → w1.frozen? ⟨b, o, none⟩ = W.frozen? ⟨b, o, none⟩) :=
  ⟨fun b o h => hb.cell (p := ⟨b, o, none⟩) h, fun b o h => hb.frozen (p := ⟨b, o, none⟩) h⟩
/-- The draws outermost, whatever was done behind them. -/
theorem drewN_alloc (w : World) (n : Nat) (o : Obj) : (w.drewN n).alloc o = (w.alloc o).drewN n := rfl
theorem drewN_setCell (w : World) (n : Nat) (a : Addr) (v : Value) : (w.drewN n).setCell a v = (w.setCell a v).drewN n := rfl
theorem results_tmp5 {fn : Func} {t u v x y : Tmp} (h : fn.results = #[.tmp t, .tmp u, .tmp v, .tmp x, .tmp y]) (tmps : Array Value) (P : Program) (w : World) :
    (results fn tmps).run P w = .ok (.tuple #[tmps.getD t undef, tmps.getD u undef, tmps.getD v undef, tmps.getD x undef, tmps.getD y undef]) w := by simp [results, h]
theorem ret_bool {a b : Bool} (h : a = b) : Ending.returned (.bool a) = Ending.returned (.bool b) := by rw [h]
theorem ret_int {k : IntKind} {a b : Int} (h : a = b) : Ending.returned (.int k a) = Ending.returned (.int k b) := by rw [h]
theorem ret_ib {k : IntKind} {a b : Int} {p q : Bool} (h : a = b) (h' : p = q) : Ending.returned (.tuple #[.int k a, .bool p]) = Ending.returned (.tuple #[.int k b, .bool q]) := by rw [h, h']
end Go.Proofs.Ythmjbfocpdiikaa
/-
  Plain arithmetic of layer 1, with no program in sight.
-/
namespace Go.Proofs.Ythmjbfocpdiikaa.PN

def fits (x : Int) : Bool := decide (-9223372036854775808 ≤ x) && decide (x ≤ 9223372036854775807)
def add (a b : Int) : Int × Bool := if fits (a + b) then (a + b, true) else (0, false)
def sub (a b : Int) : Int × Bool := if fits (a - b) then (a - b, true) else (0, false)
def mul (a b : Int) : Int × Bool := if fits (a * b) then (a * b, true) else (0, false)
def ceil (a b : Int) : Int × Bool := if a < 0 ∨ b < 1 then (0, false) else ((a + (b - 1)) / b, true)

theorem fits_iff (x : Int) : fits x = true ↔ -9223372036854775808 ≤ x ∧ x ≤ 9223372036854775807 := by simp [fits]
theorem fits_not (x : Int) : fits x = false ↔ (x < -9223372036854775808 ∨ 9223372036854775807 < x) := by
  rw [← Bool.not_eq_true, fits_iff]; omega
theorem add_yes {a b : Int} (h : fits (a + b) = true) : add a b = (a + b, true) := by simp [add, h]
theorem add_no {a b : Int} (h : fits (a + b) = false) : add a b = (0, false) := by simp [add, h]
theorem sub_yes {a b : Int} (h : fits (a - b) = true) : sub a b = (a - b, true) := by simp [sub, h]
theorem sub_no {a b : Int} (h : fits (a - b) = false) : sub a b = (0, false) := by simp [sub, h]
theorem mul_yes {a b : Int} (h : fits (a * b) = true) : mul a b = (a * b, true) := by simp [mul, h]
theorem mul_no {a b : Int} (h : fits (a * b) = false) : mul a b = (0, false) := by simp [mul, h]

theorem add_range (a b : Int) : -9223372036854775808 ≤ (add a b).1 ∧ (add a b).1 ≤ 9223372036854775807 := by
  unfold add; split
  · rename_i h; exact (fits_iff _).1 h
  · simp
theorem sub_range (a b : Int) : -9223372036854775808 ≤ (sub a b).1 ∧ (sub a b).1 ≤ 9223372036854775807 := by
  unfold sub; split
  · rename_i h; exact (fits_iff _).1 h
  · simp
theorem mul_range (a b : Int) : -9223372036854775808 ≤ (mul a b).1 ∧ (mul a b).1 ≤ 9223372036854775807 := by
  unfold mul; split
  · rename_i h; exact (fits_iff _).1 h
  · simp
end Go.Proofs.Ythmjbfocpdiikaa.PN
/-
  Contracts of num.Add, num.Sub, and of the references' Add, Sub.
-/
namespace Go.Proofs.Ythmjbfocpdiikaa
open Go.RowKit

theorem num_Add (a b : Int) (w : World) (ha : -9223372036854775808 ≤ a ∧ a ≤ 9223372036854775807) (hb : -9223372036854775808 ≤ b ∧ b ≤ 9223372036854775807) :
    Calls Try.prog 100 #[.int .i64 a, .int .i64 b] w fun e w' => e = .returned (.tuple #[.int .i64 (PN.add a b).1, .bool (PN.add a b).2]) ∧ w = w' := by
  obtain ⟨ha1, ha2⟩ := ha
  obtain ⟨hb1, hb2⟩ := hb
  by_cases hf : PN.fits (a + b) = true
  · have hr := PN.add_yes hf
    have HR := Lib.hid hr
    obtain ⟨h1, h2⟩ := (PN.fits_iff _).1 hf
    clear hr hf
    go_enter Try.func100, Try.ntmps100
    go_wp2
    all_goals (go_ret2; exact ⟨by rw [HR.out]; rfl, rfl⟩)
  · have hf' : PN.fits (a + b) = false := by simpa using hf
    have hr := PN.add_no hf'
    have HR := Lib.hid hr
    have h1 := (PN.fits_not _).1 hf'
    clear hr hf hf'
    rcases h1 with h1 | h1
    · have h2 : 0 ≤ wrap64 (a + b) := by unfold wrap64; omega
      have h3 : a < 0 := by omega
      have h4 : b < 0 := by omega
      go_enter Try.func100, Try.ntmps100
      go_wp2
      all_goals (go_ret2; exact ⟨by rw [HR.out]; rfl, rfl⟩)
    · have h2 : wrap64 (a + b) < 0 := by unfold wrap64; omega
      have h3 : 0 ≤ a := by omega
      have h4 : 0 ≤ b := by omega
      go_enter Try.func100, Try.ntmps100
      go_wp2
      all_goals (go_ret2; exact ⟨by rw [HR.out]; rfl, rfl⟩)
end Go.Proofs.Ythmjbfocpdiikaa
/-
  The contracts of account.Right and of its reference.
-/
namespace Go.Proofs.Ythmjbfocpdiikaa
open Go.RowKit
attribute [local go_sem] drewN_alloc drewN_setCell

theorem account_Right (c h r : Int) (w : World) (hc : -9223372036854775808 ≤ c ∧ c ≤ 9223372036854775807) (hh : -9223372036854775808 ≤ h ∧ h ≤ 9223372036854775807) (hr : -9223372036854775808 ≤ r ∧ r ≤ 9223372036854775807) :
    Calls Try.prog 91 #[.agg #[.int .i64 c, .int .i64 h, .int .i64 r]] w fun e w' => e = .returned (.bool (PA.right c h r)) ∧ Below w.heap.size w w' := by
  have ha := num_Add h r
  by_cases hf : PN.fits (h + r) = true
  · rw [PN.add_yes hf] at ha
    have HA := Lib.hid ha
    have HF := Lib.hid hf
    clear ha hf
    go_enter Try.func91, Try.ntmps91
    go_wp2_with (go_at_call 100; refine (HA.out _ hh hr).mono ?_; rintro e w1 ⟨rfl, rfl⟩)
    all_goals (go_ret; exact ⟨ret_bool (by have hx := (PN.fits_iff _).1 HF.out; rw [Bool.eq_iff_iff, PA.right_iff]; (try simp); (try omega)), (by repeat (first | exact Below.refl _ _ | assumption | refine bel_drew ?_ | refine bel_drewN ?_ _ | refine bel_alloc ?_ _ | refine bel_set ?_ (by first | (dsimp only; omega) | (simp; done) | (simp; omega)) _ | refine bel_trans ?_ (by assumption)))⟩)
  · have hf' : PN.fits (h + r) = false := by simpa using hf
    rw [PN.add_no hf'] at ha
    have HA := Lib.hid ha
    have HF := Lib.hid hf'
    clear ha hf hf'
    go_enter Try.func91, Try.ntmps91
    go_wp2_with (go_at_call 100; refine (HA.out _ hh hr).mono ?_; rintro e w1 ⟨rfl, rfl⟩)
    all_goals (go_ret; exact ⟨ret_bool (by have hx := (PN.fits_not _).1 HF.out; rw [Bool.eq_iff_iff, PA.right_iff]; (try simp); (try omega)), (by repeat (first | exact Below.refl _ _ | assumption | refine bel_drew ?_ | refine bel_drewN ?_ _ | refine bel_alloc ?_ _ | refine bel_set ?_ (by first | (dsimp only; omega) | (simp; done) | (simp; omega)) _ | refine bel_trans ?_ (by assumption)))⟩)
end Go.Proofs.Ythmjbfocpdiikaa
/-
  More small lemmas on worlds for the walks.
-/
namespace Go.Proofs.Ythmjbfocpdiikaa
open Go.RowKit

theorem cell_after {W w1 : World} {a : Addr} {v : Value} (k : Below W.heap.size W w1) (hlt : a.block < W.heap.size) (h : W.cell? a = some v) : w1.cell? a = some v := (k.cell hlt).trans h
theorem frozen_after {W w1 : World} {a : Addr} (k : Below W.heap.size W w1) (hlt : a.block < W.heap.size) (h : W.frozen? a = false) : w1.frozen? a = false := (k.frozen hlt).trans h
theorem cell_alloc {W : World} {a : Addr} {v : Value} (o : Obj) (hlt : a.block < W.heap.size) (h : W.cell? a = some v) : (W.alloc o).cell? a = some v := (World.cell?_alloc_lt W o a hlt).trans h
theorem frozen_alloc {W : World} {a : Addr} (o : Obj) (hlt : a.block < W.heap.size) (h : W.frozen? a = false) : (W.alloc o).frozen? a = false :=
  (World.frozen?_alloc_old W o a (by omega)).trans h
end Go.Proofs.Ythmjbfocpdiikaa
/-
  The contracts of account.Grant, Need, and of the reference's Right, Do (2), Need: those of the texts Acct* that this seat has.
-/
namespace Go.Proofs.Ythmjbfocpdiikaa
open Go.RowKit
set_option linter.unusedVariables false
attribute [local go_sem] drewN_alloc drewN_setCell

set_option maxHeartbeats 1000000 in
theorem apply_nr (c h r n : Int) (w : World) (bc : -9223372036854775808 ≤ c ∧ c ≤ 9223372036854775807) (bh : -9223372036854775808 ≤ h ∧ h ≤ 9223372036854775807) (br : -9223372036854775808 ≤ r ∧ r ≤ 9223372036854775807) (bn : -9223372036854775808 ≤ n ∧ n ≤ 9223372036854775807) (K : Nat) (err : Int) (hr : PA.right c h r = false) :
    Calls Try.prog 77 #[.agg #[.int .i64 c, .int .i64 h, .int .i64 r], .int .i64 n, .agg #[.func (Fn.func K) #[] #[], .int .i64 err]] w fun e w' => e = .returned (.tuple #[.agg #[.int .i64 0, .int .i64 0, .int .i64 0], .int .i64 2]) ∧ Below w.heap.size w w' := by
  go_enter Try.func77, Try.ntmps77
  go_wp2_with fail
  refine (account_Right c h r _ bc bh br).mono ?_
  rintro e w1 ⟨rfl, k1⟩
  have qk1_0 := cell_after (a := ⟨w.heap.size, 0, none⟩) (v := .int .i64 c) k1 (by first | (dsimp only; omega) | (simp; done) | (simp; omega)) (by first | assumption | exact cell_alloc _ (by dsimp only; omega) (by assumption) | (simp [go_sem]; done))
  have fqk1_0 := frozen_after (a := ⟨w.heap.size, 0, none⟩) k1 (by first | (dsimp only; omega) | (simp; done) | (simp; omega)) (by first | assumption | exact frozen_alloc _ (by dsimp only; omega) (by assumption) | (simp [go_sem]; done))
  have qk1_1 := cell_after (a := ⟨w.heap.size, 1, none⟩) (v := .int .i64 h) k1 (by first | (dsimp only; omega) | (simp; done) | (simp; omega)) (by first | assumption | exact cell_alloc _ (by dsimp only; omega) (by assumption) | (simp [go_sem]; done))
  have fqk1_1 := frozen_after (a := ⟨w.heap.size, 1, none⟩) k1 (by first | (dsimp only; omega) | (simp; done) | (simp; omega)) (by first | assumption | exact frozen_alloc _ (by dsimp only; omega) (by assumption) | (simp [go_sem]; done))
  have qk1_2 := cell_after (a := ⟨w.heap.size, 2, none⟩) (v := .int .i64 r) k1 (by first | (dsimp only; omega) | (simp; done) | (simp; omega)) (by first | assumption | exact cell_alloc _ (by dsimp only; omega) (by assumption) | (simp [go_sem]; done))
  have fqk1_2 := frozen_after (a := ⟨w.heap.size, 2, none⟩) k1 (by first | (dsimp only; omega) | (simp; done) | (simp; omega)) (by first | assumption | exact frozen_alloc _ (by dsimp only; omega) (by assumption) | (simp [go_sem]; done))
  have qk1_3 := cell_after (a := ⟨w.heap.size + 1, 0, none⟩) (v := .func (Fn.func K) #[] #[]) k1 (by first | (dsimp only; omega) | (simp; done) | (simp; omega)) (by first | assumption | exact cell_alloc _ (by dsimp only; omega) (by assumption) | (simp [go_sem]; done))
  have fqk1_3 := frozen_after (a := ⟨w.heap.size + 1, 0, none⟩) k1 (by first | (dsimp only; omega) | (simp; done) | (simp; omega)) (by first | assumption | exact frozen_alloc _ (by dsimp only; omega) (by assumption) | (simp [go_sem]; done))
  have qk1_4 := cell_after (a := ⟨w.heap.size + 1, 1, none⟩) (v := .int .i64 err) k1 (by first | (dsimp only; omega) | (simp; done) | (simp; omega)) (by first | assumption | exact cell_alloc _ (by dsimp only; omega) (by assumption) | (simp [go_sem]; done))
  have fqk1_4 := frozen_after (a := ⟨w.heap.size + 1, 1, none⟩) k1 (by first | (dsimp only; omega) | (simp; done) | (simp; omega)) (by first | assumption | exact frozen_alloc _ (by dsimp only; omega) (by assumption) | (simp [go_sem]; done))
  have qk1_5 := cell_after (a := ⟨w.heap.size + 1 + 1, 0, none⟩) (v := .int .i64 0) k1 (by first | (dsimp only; omega) | (simp; done) | (simp; omega)) (by first | assumption | exact cell_alloc _ (by dsimp only; omega) (by assumption) | (simp [go_sem]; done))
  have fqk1_5 := frozen_after (a := ⟨w.heap.size + 1 + 1, 0, none⟩) k1 (by first | (dsimp only; omega) | (simp; done) | (simp; omega)) (by first | assumption | exact frozen_alloc _ (by dsimp only; omega) (by assumption) | (simp [go_sem]; done))
  have qk1_6 := cell_after (a := ⟨w.heap.size + 1 + 1, 1, none⟩) (v := .int .i64 0) k1 (by first | (dsimp only; omega) | (simp; done) | (simp; omega)) (by first | assumption | exact cell_alloc _ (by dsimp only; omega) (by assumption) | (simp [go_sem]; done))
  have fqk1_6 := frozen_after (a := ⟨w.heap.size + 1 + 1, 1, none⟩) k1 (by first | (dsimp only; omega) | (simp; done) | (simp; omega)) (by first | assumption | exact frozen_alloc _ (by dsimp only; omega) (by assumption) | (simp [go_sem]; done))
  have qk1_7 := cell_after (a := ⟨w.heap.size + 1 + 1, 2, none⟩) (v := .int .i64 0) k1 (by first | (dsimp only; omega) | (simp; done) | (simp; omega)) (by first | assumption | exact cell_alloc _ (by dsimp only; omega) (by assumption) | (simp [go_sem]; done))
  have fqk1_7 := frozen_after (a := ⟨w.heap.size + 1 + 1, 2, none⟩) k1 (by first | (dsimp only; omega) | (simp; done) | (simp; omega)) (by first | assumption | exact frozen_alloc _ (by dsimp only; omega) (by assumption) | (simp [go_sem]; done))
  have s1 := k1.size
  simp only [World.size_alloc] at s1
  have s1' : w.heap.size + 1 + 1 < w1.heap.size := by omega
  have s1'' : w.heap.size + 1 < w1.heap.size := by omega
  have s1a : w.heap.size < w1.heap.size := by omega
  have K1 : Below w.heap.size w w1 := (by repeat (first | exact Below.refl _ _ | assumption | refine bel_drew ?_ | refine bel_drewN ?_ _ | refine bel_alloc ?_ _ | refine bel_set ?_ (by first | (dsimp only; omega) | (simp; done) | (simp; omega)) _ | refine bel_trans ?_ (by assumption)))
  clear k1 s1
  go_wp2_with fail
  refine bodyPost_ret (v := .tuple #[.agg #[.int .i64 0, .int .i64 0, .int .i64 0], .int .i64 2]) (by simp [results, Try.results77, go_sem, *]) rfl ⟨rfl, (by repeat (first | exact Below.refl _ _ | assumption | refine bel_drew ?_ | refine bel_drewN ?_ _ | refine bel_alloc ?_ _ | refine bel_set ?_ (by first | (dsimp only; omega) | (simp; done) | (simp; omega)) _ | refine bel_trans ?_ (by assumption)))⟩

set_option maxHeartbeats 1000000 in
theorem apply_n0 (c h r n : Int) (w : World) (bc : -9223372036854775808 ≤ c ∧ c ≤ 9223372036854775807) (bh : -9223372036854775808 ≤ h ∧ h ≤ 9223372036854775807) (br : -9223372036854775808 ≤ r ∧ r ≤ 9223372036854775807) (bn : -9223372036854775808 ≤ n ∧ n ≤ 9223372036854775807) (K : Nat) (err : Int) (hr : PA.right c h r = true) (n1 : n < 1) :
    Calls Try.prog 77 #[.agg #[.int .i64 c, .int .i64 h, .int .i64 r], .int .i64 n, .agg #[.func (Fn.func K) #[] #[], .int .i64 err]] w fun e w' => e = .returned (.tuple #[.agg #[.int .i64 0, .int .i64 0, .int .i64 0], .int .i64 2]) ∧ Below w.heap.size w w' := by
  go_enter Try.func77, Try.ntmps77
  go_wp2_with fail
  refine (account_Right c h r _ bc bh br).mono ?_
  rintro e w1 ⟨rfl, k1⟩
  have qk1_0 := cell_after (a := ⟨w.heap.size, 0, none⟩) (v := .int .i64 c) k1 (by first | (dsimp only; omega) | (simp; done) | (simp; omega)) (by first | assumption | exact cell_alloc _ (by dsimp only; omega) (by assumption) | (simp [go_sem]; done))
  have fqk1_0 := frozen_after (a := ⟨w.heap.size, 0, none⟩) k1 (by first | (dsimp only; omega) | (simp; done) | (simp; omega)) (by first | assumption | exact frozen_alloc _ (by dsimp only; omega) (by assumption) | (simp [go_sem]; done))
  have qk1_1 := cell_after (a := ⟨w.heap.size, 1, none⟩) (v := .int .i64 h) k1 (by first | (dsimp only; omega) | (simp; done) | (simp; omega)) (by first | assumption | exact cell_alloc _ (by dsimp only; omega) (by assumption) | (simp [go_sem]; done))
  have fqk1_1 := frozen_after (a := ⟨w.heap.size, 1, none⟩) k1 (by first | (dsimp only; omega) | (simp; done) | (simp; omega)) (by first | assumption | exact frozen_alloc _ (by dsimp only; omega) (by assumption) | (simp [go_sem]; done))
  have qk1_2 := cell_after (a := ⟨w.heap.size, 2, none⟩) (v := .int .i64 r) k1 (by first | (dsimp only; omega) | (simp; done) | (simp; omega)) (by first | assumption | exact cell_alloc _ (by dsimp only; omega) (by assumption) | (simp [go_sem]; done))
  have fqk1_2 := frozen_after (a := ⟨w.heap.size, 2, none⟩) k1 (by first | (dsimp only; omega) | (simp; done) | (simp; omega)) (by first | assumption | exact frozen_alloc _ (by dsimp only; omega) (by assumption) | (simp [go_sem]; done))
  have qk1_3 := cell_after (a := ⟨w.heap.size + 1, 0, none⟩) (v := .func (Fn.func K) #[] #[]) k1 (by first | (dsimp only; omega) | (simp; done) | (simp; omega)) (by first | assumption | exact cell_alloc _ (by dsimp only; omega) (by assumption) | (simp [go_sem]; done))
  have fqk1_3 := frozen_after (a := ⟨w.heap.size + 1, 0, none⟩) k1 (by first | (dsimp only; omega) | (simp; done) | (simp; omega)) (by first | assumption | exact frozen_alloc _ (by dsimp only; omega) (by assumption) | (simp [go_sem]; done))
  have qk1_4 := cell_after (a := ⟨w.heap.size + 1, 1, none⟩) (v := .int .i64 err) k1 (by first | (dsimp only; omega) | (simp; done) | (simp; omega)) (by first | assumption | exact cell_alloc _ (by dsimp only; omega) (by assumption) | (simp [go_sem]; done))
  have fqk1_4 := frozen_after (a := ⟨w.heap.size + 1, 1, none⟩) k1 (by first | (dsimp only; omega) | (simp; done) | (simp; omega)) (by first | assumption | exact frozen_alloc _ (by dsimp only; omega) (by assumption) | (simp [go_sem]; done))
  have qk1_5 := cell_after (a := ⟨w.heap.size + 1 + 1, 0, none⟩) (v := .int .i64 0) k1 (by first | (dsimp only; omega) | (simp; done) | (simp; omega)) (by first | assumption | exact cell_alloc _ (by dsimp only; omega) (by assumption) | (simp [go_sem]; done))
  have fqk1_5 := frozen_after (a := ⟨w.heap.size + 1 + 1, 0, none⟩) k1 (by first | (dsimp only; omega) | (simp; done) | (simp; omega)) (by first | assumption | exact frozen_alloc _ (by dsimp only; omega) (by assumption) | (simp [go_sem]; done))
  have qk1_6 := cell_after (a := ⟨w.heap.size + 1 + 1, 1, none⟩) (v := .int .i64 0) k1 (by first | (dsimp only; omega) | (simp; done) | (simp; omega)) (by first | assumption | exact cell_alloc _ (by dsimp only; omega) (by assumption) | (simp [go_sem]; done))
  have fqk1_6 := frozen_after (a := ⟨w.heap.size + 1 + 1, 1, none⟩) k1 (by first | (dsimp only; omega) | (simp; done) | (simp; omega)) (by first | assumption | exact frozen_alloc _ (by dsimp only; omega) (by assumption) | (simp [go_sem]; done))
  have qk1_7 := cell_after (a := ⟨w.heap.size + 1 + 1, 2, none⟩) (v := .int .i64 0) k1 (by first | (dsimp only; omega) | (simp; done) | (simp; omega)) (by first | assumption | exact cell_alloc _ (by dsimp only; omega) (by assumption) | (simp [go_sem]; done))
  have fqk1_7 := frozen_after (a := ⟨w.heap.size + 1 + 1, 2, none⟩) k1 (by first | (dsimp only; omega) | (simp; done) | (simp; omega)) (by first | assumption | exact frozen_alloc _ (by dsimp only; omega) (by assumption) | (simp [go_sem]; done))
  have s1 := k1.size
  simp only [World.size_alloc] at s1
  have s1' : w.heap.size + 1 + 1 < w1.heap.size := by omega
  have s1'' : w.heap.size + 1 < w1.heap.size := by omega
  have s1a : w.heap.size < w1.heap.size := by omega
  have K1 : Below w.heap.size w w1 := (by repeat (first | exact Below.refl _ _ | assumption | refine bel_drew ?_ | refine bel_drewN ?_ _ | refine bel_alloc ?_ _ | refine bel_set ?_ (by first | (dsimp only; omega) | (simp; done) | (simp; omega)) _ | refine bel_trans ?_ (by assumption)))
  clear k1 s1
  go_wp2_with fail
  refine bodyPost_ret (v := .tuple #[.agg #[.int .i64 0, .int .i64 0, .int .i64 0], .int .i64 2]) (by simp [results, Try.results77, go_sem, *]) rfl ⟨rfl, (by repeat (first | exact Below.refl _ _ | assumption | refine bel_drew ?_ | refine bel_drewN ?_ _ | refine bel_alloc ?_ _ | refine bel_set ?_ (by first | (dsimp only; omega) | (simp; done) | (simp; omega)) _ | refine bel_trans ?_ (by assumption)))⟩

set_option maxHeartbeats 1000000 in
theorem apply_big (c h r n : Int) (w : World) (bc : -9223372036854775808 ≤ c ∧ c ≤ 9223372036854775807) (bh : -9223372036854775808 ≤ h ∧ h ≤ 9223372036854775807) (br : -9223372036854775808 ≤ r ∧ r ≤ 9223372036854775807) (bn : -9223372036854775808 ≤ n ∧ n ≤ 9223372036854775807) (K : Nat) (err : Int) (hr : PA.right c h r = true) (n1 : 1048576 < n) :
    Calls Try.prog 77 #[.agg #[.int .i64 c, .int .i64 h, .int .i64 r], .int .i64 n, .agg #[.func (Fn.func K) #[] #[], .int .i64 err]] w fun e w' => e = .returned (.tuple #[.agg #[.int .i64 0, .int .i64 0, .int .i64 0], .int .i64 err]) ∧ Below w.heap.size w w' := by
  have n2 : 1 ≤ n := by omega
  go_enter Try.func77, Try.ntmps77
  go_wp2_with fail
  refine (account_Right c h r _ bc bh br).mono ?_
  rintro e w1 ⟨rfl, k1⟩
  have qk1_0 := cell_after (a := ⟨w.heap.size, 0, none⟩) (v := .int .i64 c) k1 (by first | (dsimp only; omega) | (simp; done) | (simp; omega)) (by first | assumption | exact cell_alloc _ (by dsimp only; omega) (by assumption) | (simp [go_sem]; done))
  have fqk1_0 := frozen_after (a := ⟨w.heap.size, 0, none⟩) k1 (by first | (dsimp only; omega) | (simp; done) | (simp; omega)) (by first | assumption | exact frozen_alloc _ (by dsimp only; omega) (by assumption) | (simp [go_sem]; done))
  have qk1_1 := cell_after (a := ⟨w.heap.size, 1, none⟩) (v := .int .i64 h) k1 (by first | (dsimp only; omega) | (simp; done) | (simp; omega)) (by first | assumption | exact cell_alloc _ (by dsimp only; omega) (by assumption) | (simp [go_sem]; done))
  have fqk1_1 := frozen_after (a := ⟨w.heap.size, 1, none⟩) k1 (by first | (dsimp only; omega) | (simp; done) | (simp; omega)) (by first | assumption | exact frozen_alloc _ (by dsimp only; omega) (by assumption) | (simp [go_sem]; done))
  have qk1_2 := cell_after (a := ⟨w.heap.size, 2, none⟩) (v := .int .i64 r) k1 (by first | (dsimp only; omega) | (simp; done) | (simp; omega)) (by first | assumption | exact cell_alloc _ (by dsimp only; omega) (by assumption) | (simp [go_sem]; done))
  have fqk1_2 := frozen_after (a := ⟨w.heap.size, 2, none⟩) k1 (by first | (dsimp only; omega) | (simp; done) | (simp; omega)) (by first | assumption | exact frozen_alloc _ (by dsimp only; omega) (by assumption) | (simp [go_sem]; done))
  have qk1_3 := cell_after (a := ⟨w.heap.size + 1, 0, none⟩) (v := .func (Fn.func K) #[] #[]) k1 (by first | (dsimp only; omega) | (simp; done) | (simp; omega)) (by first | assumption | exact cell_alloc _ (by dsimp only; omega) (by assumption) | (simp [go_sem]; done))
  have fqk1_3 := frozen_after (a := ⟨w.heap.size + 1, 0, none⟩) k1 (by first | (dsimp only; omega) | (simp; done) | (simp; omega)) (by first | assumption | exact frozen_alloc _ (by dsimp only; omega) (by assumption) | (simp [go_sem]; done))
  have qk1_4 := cell_after (a := ⟨w.heap.size + 1, 1, none⟩) (v := .int .i64 err) k1 (by first | (dsimp only; omega) | (simp; done) | (simp; omega)) (by first | assumption | exact cell_alloc _ (by dsimp only; omega) (by assumption) | (simp [go_sem]; done))
  have fqk1_4 := frozen_after (a := ⟨w.heap.size + 1, 1, none⟩) k1 (by first | (dsimp only; omega) | (simp; done) | (simp; omega)) (by first | assumption | exact frozen_alloc _ (by dsimp only; omega) (by assumption) | (simp [go_sem]; done))
  have qk1_5 := cell_after (a := ⟨w.heap.size + 1 + 1, 0, none⟩) (v := .int .i64 0) k1 (by first | (dsimp only; omega) | (simp; done) | (simp; omega)) (by first | assumption | exact cell_alloc _ (by dsimp only; omega) (by assumption) | (simp [go_sem]; done))
  have fqk1_5 := frozen_after (a := ⟨w.heap.size + 1 + 1, 0, none⟩) k1 (by first | (dsimp only; omega) | (simp; done) | (simp; omega)) (by first | assumption | exact frozen_alloc _ (by dsimp only; omega) (by assumption) | (simp [go_sem]; done))
  have qk1_6 := cell_after (a := ⟨w.heap.size + 1 + 1, 1, none⟩) (v := .int .i64 0) k1 (by first | (dsimp only; omega) | (simp; done) | (simp; omega)) (by first | assumption | exact cell_alloc _ (by dsimp only; omega) (by assumption) | (simp [go_sem]; done))
  have fqk1_6 := frozen_after (a := ⟨w.heap.size + 1 + 1, 1, none⟩) k1 (by first | (dsimp only; omega) | (simp; done) | (simp; omega)) (by first | assumption | exact frozen_alloc _ (by dsimp only; omega) (by assumption) | (simp [go_sem]; done))
  have qk1_7 := cell_after (a := ⟨w.heap.size + 1 + 1, 2, none⟩) (v := .int .i64 0) k1 (by first | (dsimp only; omega) | (simp; done) | (simp; omega)) (by first | assumption | exact cell_alloc _ (by dsimp only; omega) (by assumption) | (simp [go_sem]; done))
  have fqk1_7 := frozen_after (a := ⟨w.heap.size + 1 + 1, 2, none⟩) k1 (by first | (dsimp only; omega) | (simp; done) | (simp; omega)) (by first | assumption | exact frozen_alloc _ (by dsimp only; omega) (by assumption) | (simp [go_sem]; done))
  have s1 := k1.size
  simp only [World.size_alloc] at s1
  have s1' : w.heap.size + 1 + 1 < w1.heap.size := by omega
  have s1'' : w.heap.size + 1 < w1.heap.size := by omega
  have s1a : w.heap.size < w1.heap.size := by omega
  have K1 : Below w.heap.size w w1 := (by repeat (first | exact Below.refl _ _ | assumption | refine bel_drew ?_ | refine bel_drewN ?_ _ | refine bel_alloc ?_ _ | refine bel_set ?_ (by first | (dsimp only; omega) | (simp; done) | (simp; omega)) _ | refine bel_trans ?_ (by assumption)))
  clear k1 s1
  go_wp2_with fail
  go_region
  all_goals go_wp2
  all_goals (refine bodyPost_ret (v := .tuple #[.agg #[.int .i64 0, .int .i64 0, .int .i64 0], .int .i64 err]) (by simp [results, Try.results77, go_sem, *]) rfl ⟨rfl, (by repeat (first | exact Below.refl _ _ | assumption | refine bel_drew ?_ | refine bel_drewN ?_ _ | refine bel_alloc ?_ _ | refine bel_set ?_ (by first | (dsimp only; omega) | (simp; done) | (simp; omega)) _ | refine bel_trans ?_ (by assumption)))⟩)

theorem closure_Grant (c h r n : Int) (w : World) (n1 : 1 ≤ n) (n2 : n ≤ 1048576) (i3 : 0 ≤ h) (i4 : 0 ≤ r) (i5 : h ≤ 1048576) (i6 : r ≤ 1048576) :
    Calls Try.prog 78 #[.agg #[.int .i64 c, .int .i64 h, .int .i64 r], .int .i64 n] w fun e w' => e = .returned (.agg #[.int .i64 c, .int .i64 (h + n), .int .i64 (r - n)]) ∧ Below w.heap.size w w' := by
  go_enter Try.func78, Try.ntmps78
  go_wp2_with fail
  refine bodyPost_ret (v := .agg #[.int .i64 c, .int .i64 (h + n), .int .i64 (r - n)]) (by simp [results, Try.results78, go_sem]) rfl ⟨rfl, (by repeat (first | exact Below.refl _ _ | assumption | refine bel_drew ?_ | refine bel_drewN ?_ _ | refine bel_alloc ?_ _ | refine bel_set ?_ (by first | (dsimp only; omega) | (simp; done) | (simp; omega)) _ | refine bel_trans ?_ (by assumption)))⟩

set_option maxHeartbeats 1000000 in
theorem apply_Grant_ok (c h r n : Int) (w : World) (bc : -9223372036854775808 ≤ c ∧ c ≤ 9223372036854775807) (bh : -9223372036854775808 ≤ h ∧ h ≤ 9223372036854775807) (br : -9223372036854775808 ≤ r ∧ r ≤ 9223372036854775807) (bn : -9223372036854775808 ≤ n ∧ n ≤ 9223372036854775807) (hr : PA.right c h r = true) (n1 : 1 ≤ n) (n2 : n ≤ 1048576) (hr2 : PA.right c (h + n) (r - n) = true) :
    Calls Try.prog 77 #[.agg #[.int .i64 c, .int .i64 h, .int .i64 r], .int .i64 n, .agg #[.func (Fn.func 78) #[] #[], .int .i64 20]] w fun e w' => e = .returned (.tuple #[.agg #[.int .i64 c, .int .i64 (h + n), .int .i64 (r - n)], .int .i64 0]) ∧ Below w.heap.size w w' := by
  have hi := (PA.right_iff c h r).1 hr
  have i1 := hi.1; have i2 := hi.2.1; have i3 := hi.2.2.1; have i4 := hi.2.2.2.1; have i5 := hi.2.2.2.2
  have i6 : h ≤ 1048576 := by omega
  have i7 : r ≤ 1048576 := by omega
  clear hi
  go_enter Try.func77, Try.ntmps77
  go_wp2_with fail
  refine (account_Right c h r _ bc bh br).mono ?_
  rintro e w1 ⟨rfl, k1⟩
  have qk1_0 := cell_after (a := ⟨w.heap.size, 0, none⟩) (v := .int .i64 c) k1 (by first | (dsimp only; omega) | (simp; done) | (simp; omega)) (by first | assumption | exact cell_alloc _ (by dsimp only; omega) (by assumption) | (simp [go_sem]; done))
  have fqk1_0 := frozen_after (a := ⟨w.heap.size, 0, none⟩) k1 (by first | (dsimp only; omega) | (simp; done) | (simp; omega)) (by first | assumption | exact frozen_alloc _ (by dsimp only; omega) (by assumption) | (simp [go_sem]; done))
  have qk1_1 := cell_after (a := ⟨w.heap.size, 1, none⟩) (v := .int .i64 h) k1 (by first | (dsimp only; omega) | (simp; done) | (simp; omega)) (by first | assumption | exact cell_alloc _ (by dsimp only; omega) (by assumption) | (simp [go_sem]; done))
  have fqk1_1 := frozen_after (a := ⟨w.heap.size, 1, none⟩) k1 (by first | (dsimp only; omega) | (simp; done) | (simp; omega)) (by first | assumption | exact frozen_alloc _ (by dsimp only; omega) (by assumption) | (simp [go_sem]; done))
  have qk1_2 := cell_after (a := ⟨w.heap.size, 2, none⟩) (v := .int .i64 r) k1 (by first | (dsimp only; omega) | (simp; done) | (simp; omega)) (by first | assumption | exact cell_alloc _ (by dsimp only; omega) (by assumption) | (simp [go_sem]; done))
  have fqk1_2 := frozen_after (a := ⟨w.heap.size, 2, none⟩) k1 (by first | (dsimp only; omega) | (simp; done) | (simp; omega)) (by first | assumption | exact frozen_alloc _ (by dsimp only; omega) (by assumption) | (simp [go_sem]; done))
  have qk1_3 := cell_after (a := ⟨w.heap.size + 1, 0, none⟩) (v := .func (Fn.func 78) #[] #[]) k1 (by first | (dsimp only; omega) | (simp; done) | (simp; omega)) (by first | assumption | exact cell_alloc _ (by dsimp only; omega) (by assumption) | (simp [go_sem]; done))
  have fqk1_3 := frozen_after (a := ⟨w.heap.size + 1, 0, none⟩) k1 (by first | (dsimp only; omega) | (simp; done) | (simp; omega)) (by first | assumption | exact frozen_alloc _ (by dsimp only; omega) (by assumption) | (simp [go_sem]; done))
  have qk1_4 := cell_after (a := ⟨w.heap.size + 1, 1, none⟩) (v := .int .i64 20) k1 (by first | (dsimp only; omega) | (simp; done) | (simp; omega)) (by first | assumption | exact cell_alloc _ (by dsimp only; omega) (by assumption) | (simp [go_sem]; done))
  have fqk1_4 := frozen_after (a := ⟨w.heap.size + 1, 1, none⟩) k1 (by first | (dsimp only; omega) | (simp; done) | (simp; omega)) (by first | assumption | exact frozen_alloc _ (by dsimp only; omega) (by assumption) | (simp [go_sem]; done))
  have qk1_5 := cell_after (a := ⟨w.heap.size + 1 + 1, 0, none⟩) (v := .int .i64 0) k1 (by first | (dsimp only; omega) | (simp; done) | (simp; omega)) (by first | assumption | exact cell_alloc _ (by dsimp only; omega) (by assumption) | (simp [go_sem]; done))
  have fqk1_5 := frozen_after (a := ⟨w.heap.size + 1 + 1, 0, none⟩) k1 (by first | (dsimp only; omega) | (simp; done) | (simp; omega)) (by first | assumption | exact frozen_alloc _ (by dsimp only; omega) (by assumption) | (simp [go_sem]; done))
  have qk1_6 := cell_after (a := ⟨w.heap.size + 1 + 1, 1, none⟩) (v := .int .i64 0) k1 (by first | (dsimp only; omega) | (simp; done) | (simp; omega)) (by first | assumption | exact cell_alloc _ (by dsimp only; omega) (by assumption) | (simp [go_sem]; done))
  have fqk1_6 := frozen_after (a := ⟨w.heap.size + 1 + 1, 1, none⟩) k1 (by first | (dsimp only; omega) | (simp; done) | (simp; omega)) (by first | assumption | exact frozen_alloc _ (by dsimp only; omega) (by assumption) | (simp [go_sem]; done))
  have qk1_7 := cell_after (a := ⟨w.heap.size + 1 + 1, 2, none⟩) (v := .int .i64 0) k1 (by first | (dsimp only; omega) | (simp; done) | (simp; omega)) (by first | assumption | exact cell_alloc _ (by dsimp only; omega) (by assumption) | (simp [go_sem]; done))
  have fqk1_7 := frozen_after (a := ⟨w.heap.size + 1 + 1, 2, none⟩) k1 (by first | (dsimp only; omega) | (simp; done) | (simp; omega)) (by first | assumption | exact frozen_alloc _ (by dsimp only; omega) (by assumption) | (simp [go_sem]; done))
  have s1 := k1.size
  simp only [World.size_alloc] at s1
  have s1' : w.heap.size + 1 + 1 < w1.heap.size := by omega
  have s1'' : w.heap.size + 1 < w1.heap.size := by omega
  have s1a : w.heap.size < w1.heap.size := by omega
  have K1 : Below w.heap.size w w1 := (by repeat (first | exact Below.refl _ _ | assumption | refine bel_drew ?_ | refine bel_drewN ?_ _ | refine bel_alloc ?_ _ | refine bel_set ?_ (by first | (dsimp only; omega) | (simp; done) | (simp; omega)) _ | refine bel_trans ?_ (by assumption)))
  clear k1 s1
  go_wp2_with fail
  refine (closure_Grant c h r n _ n1 n2 i3 i4 i6 i7).mono ?_
  rintro e w2 ⟨rfl, k2⟩
  have qk2_0 := cell_after (a := ⟨w.heap.size, 0, none⟩) (v := .int .i64 c) k2 (by first | (dsimp only; omega) | (simp; done) | (simp; omega)) (by first | assumption | exact cell_alloc _ (by dsimp only; omega) (by assumption) | (simp [go_sem]; done))
  have fqk2_0 := frozen_after (a := ⟨w.heap.size, 0, none⟩) k2 (by first | (dsimp only; omega) | (simp; done) | (simp; omega)) (by first | assumption | exact frozen_alloc _ (by dsimp only; omega) (by assumption) | (simp [go_sem]; done))
  have qk2_1 := cell_after (a := ⟨w.heap.size, 1, none⟩) (v := .int .i64 h) k2 (by first | (dsimp only; omega) | (simp; done) | (simp; omega)) (by first | assumption | exact cell_alloc _ (by dsimp only; omega) (by assumption) | (simp [go_sem]; done))
  have fqk2_1 := frozen_after (a := ⟨w.heap.size, 1, none⟩) k2 (by first | (dsimp only; omega) | (simp; done) | (simp; omega)) (by first | assumption | exact frozen_alloc _ (by dsimp only; omega) (by assumption) | (simp [go_sem]; done))
  have qk2_2 := cell_after (a := ⟨w.heap.size, 2, none⟩) (v := .int .i64 r) k2 (by first | (dsimp only; omega) | (simp; done) | (simp; omega)) (by first | assumption | exact cell_alloc _ (by dsimp only; omega) (by assumption) | (simp [go_sem]; done))
  have fqk2_2 := frozen_after (a := ⟨w.heap.size, 2, none⟩) k2 (by first | (dsimp only; omega) | (simp; done) | (simp; omega)) (by first | assumption | exact frozen_alloc _ (by dsimp only; omega) (by assumption) | (simp [go_sem]; done))
  have qk2_3 := cell_after (a := ⟨w.heap.size + 1, 0, none⟩) (v := .func (Fn.func 78) #[] #[]) k2 (by first | (dsimp only; omega) | (simp; done) | (simp; omega)) (by first | assumption | exact cell_alloc _ (by dsimp only; omega) (by assumption) | (simp [go_sem]; done))
  have fqk2_3 := frozen_after (a := ⟨w.heap.size + 1, 0, none⟩) k2 (by first | (dsimp only; omega) | (simp; done) | (simp; omega)) (by first | assumption | exact frozen_alloc _ (by dsimp only; omega) (by assumption) | (simp [go_sem]; done))
  have qk2_4 := cell_after (a := ⟨w.heap.size + 1, 1, none⟩) (v := .int .i64 20) k2 (by first | (dsimp only; omega) | (simp; done) | (simp; omega)) (by first | assumption | exact cell_alloc _ (by dsimp only; omega) (by assumption) | (simp [go_sem]; done))
  have fqk2_4 := frozen_after (a := ⟨w.heap.size + 1, 1, none⟩) k2 (by first | (dsimp only; omega) | (simp; done) | (simp; omega)) (by first | assumption | exact frozen_alloc _ (by dsimp only; omega) (by assumption) | (simp [go_sem]; done))
  have qk2_5 := cell_after (a := ⟨w.heap.size + 1 + 1, 0, none⟩) (v := .int .i64 0) k2 (by first | (dsimp only; omega) | (simp; done) | (simp; omega)) (by first | assumption | exact cell_alloc _ (by dsimp only; omega) (by assumption) | (simp [go_sem]; done))
  have fqk2_5 := frozen_after (a := ⟨w.heap.size + 1 + 1, 0, none⟩) k2 (by first | (dsimp only; omega) | (simp; done) | (simp; omega)) (by first | assumption | exact frozen_alloc _ (by dsimp only; omega) (by assumption) | (simp [go_sem]; done))
  have qk2_6 := cell_after (a := ⟨w.heap.size + 1 + 1, 1, none⟩) (v := .int .i64 0) k2 (by first | (dsimp only; omega) | (simp; done) | (simp; omega)) (by first | assumption | exact cell_alloc _ (by dsimp only; omega) (by assumption) | (simp [go_sem]; done))
  have fqk2_6 := frozen_after (a := ⟨w.heap.size + 1 + 1, 1, none⟩) k2 (by first | (dsimp only; omega) | (simp; done) | (simp; omega)) (by first | assumption | exact frozen_alloc _ (by dsimp only; omega) (by assumption) | (simp [go_sem]; done))
  have qk2_7 := cell_after (a := ⟨w.heap.size + 1 + 1, 2, none⟩) (v := .int .i64 0) k2 (by first | (dsimp only; omega) | (simp; done) | (simp; omega)) (by first | assumption | exact cell_alloc _ (by dsimp only; omega) (by assumption) | (simp [go_sem]; done))
  have fqk2_7 := frozen_after (a := ⟨w.heap.size + 1 + 1, 2, none⟩) k2 (by first | (dsimp only; omega) | (simp; done) | (simp; omega)) (by first | assumption | exact frozen_alloc _ (by dsimp only; omega) (by assumption) | (simp [go_sem]; done))
  have s2 := k2.size
  have K2 : Below w.heap.size w w2 := bel_trans K1 k2
  have t2 : w.heap.size + 1 + 1 < w2.heap.size := by omega
  have t2' : w.heap.size + 1 < w2.heap.size := by omega
  have t2a : w.heap.size < w2.heap.size := by omega
  clear k2 s2 s1' s1'' s1a K1
  go_wp2_with fail
  refine (account_Right _ _ _ _ (by omega) (by omega) (by omega)).mono ?_
  rintro e w3 ⟨rfl, k3⟩
  have qk3_0 := cell_after (a := ⟨w.heap.size, 0, none⟩) (v := .int .i64 c) k3 (by first | (dsimp only; omega) | (simp; done) | (simp; omega)) (by first | assumption | exact cell_alloc _ (by dsimp only; omega) (by assumption) | (simp [go_sem]; done))
  have fqk3_0 := frozen_after (a := ⟨w.heap.size, 0, none⟩) k3 (by first | (dsimp only; omega) | (simp; done) | (simp; omega)) (by first | assumption | exact frozen_alloc _ (by dsimp only; omega) (by assumption) | (simp [go_sem]; done))
  have qk3_1 := cell_after (a := ⟨w.heap.size, 1, none⟩) (v := .int .i64 h) k3 (by first | (dsimp only; omega) | (simp; done) | (simp; omega)) (by first | assumption | exact cell_alloc _ (by dsimp only; omega) (by assumption) | (simp [go_sem]; done))
  have fqk3_1 := frozen_after (a := ⟨w.heap.size, 1, none⟩) k3 (by first | (dsimp only; omega) | (simp; done) | (simp; omega)) (by first | assumption | exact frozen_alloc _ (by dsimp only; omega) (by assumption) | (simp [go_sem]; done))
  have qk3_2 := cell_after (a := ⟨w.heap.size, 2, none⟩) (v := .int .i64 r) k3 (by first | (dsimp only; omega) | (simp; done) | (simp; omega)) (by first | assumption | exact cell_alloc _ (by dsimp only; omega) (by assumption) | (simp [go_sem]; done))
  have fqk3_2 := frozen_after (a := ⟨w.heap.size, 2, none⟩) k3 (by first | (dsimp only; omega) | (simp; done) | (simp; omega)) (by first | assumption | exact frozen_alloc _ (by dsimp only; omega) (by assumption) | (simp [go_sem]; done))
  have qk3_3 := cell_after (a := ⟨w.heap.size + 1, 0, none⟩) (v := .func (Fn.func 78) #[] #[]) k3 (by first | (dsimp only; omega) | (simp; done) | (simp; omega)) (by first | assumption | exact cell_alloc _ (by dsimp only; omega) (by assumption) | (simp [go_sem]; done))
  have fqk3_3 := frozen_after (a := ⟨w.heap.size + 1, 0, none⟩) k3 (by first | (dsimp only; omega) | (simp; done) | (simp; omega)) (by first | assumption | exact frozen_alloc _ (by dsimp only; omega) (by assumption) | (simp [go_sem]; done))
  have qk3_4 := cell_after (a := ⟨w.heap.size + 1, 1, none⟩) (v := .int .i64 20) k3 (by first | (dsimp only; omega) | (simp; done) | (simp; omega)) (by first | assumption | exact cell_alloc _ (by dsimp only; omega) (by assumption) | (simp [go_sem]; done))
  have fqk3_4 := frozen_after (a := ⟨w.heap.size + 1, 1, none⟩) k3 (by first | (dsimp only; omega) | (simp; done) | (simp; omega)) (by first | assumption | exact frozen_alloc _ (by dsimp only; omega) (by assumption) | (simp [go_sem]; done))
  have qk3_5 := cell_after (a := ⟨w.heap.size + 1 + 1, 0, none⟩) (v := .int .i64 0) k3 (by first | (dsimp only; omega) | (simp; done) | (simp; omega)) (by first | assumption | exact cell_alloc _ (by dsimp only; omega) (by assumption) | (simp [go_sem]; done))
  have fqk3_5 := frozen_after (a := ⟨w.heap.size + 1 + 1, 0, none⟩) k3 (by first | (dsimp only; omega) | (simp; done) | (simp; omega)) (by first | assumption | exact frozen_alloc _ (by dsimp only; omega) (by assumption) | (simp [go_sem]; done))
  have qk3_6 := cell_after (a := ⟨w.heap.size + 1 + 1, 1, none⟩) (v := .int .i64 0) k3 (by first | (dsimp only; omega) | (simp; done) | (simp; omega)) (by first | assumption | exact cell_alloc _ (by dsimp only; omega) (by assumption) | (simp [go_sem]; done))
  have fqk3_6 := frozen_after (a := ⟨w.heap.size + 1 + 1, 1, none⟩) k3 (by first | (dsimp only; omega) | (simp; done) | (simp; omega)) (by first | assumption | exact frozen_alloc _ (by dsimp only; omega) (by assumption) | (simp [go_sem]; done))
  have qk3_7 := cell_after (a := ⟨w.heap.size + 1 + 1, 2, none⟩) (v := .int .i64 0) k3 (by first | (dsimp only; omega) | (simp; done) | (simp; omega)) (by first | assumption | exact cell_alloc _ (by dsimp only; omega) (by assumption) | (simp [go_sem]; done))
  have fqk3_7 := frozen_after (a := ⟨w.heap.size + 1 + 1, 2, none⟩) k3 (by first | (dsimp only; omega) | (simp; done) | (simp; omega)) (by first | assumption | exact frozen_alloc _ (by dsimp only; omega) (by assumption) | (simp [go_sem]; done))
  have qk3_8 := cell_after (a := ⟨w2.heap.size, 0, none⟩) (v := .int .i64 c) k3 (by first | (dsimp only; omega) | (simp; done) | (simp; omega)) (by first | assumption | exact cell_alloc _ (by dsimp only; omega) (by assumption) | (simp [go_sem]; done))
  have fqk3_8 := frozen_after (a := ⟨w2.heap.size, 0, none⟩) k3 (by first | (dsimp only; omega) | (simp; done) | (simp; omega)) (by first | assumption | exact frozen_alloc _ (by dsimp only; omega) (by assumption) | (simp [go_sem]; done))
  have qk3_9 := cell_after (a := ⟨w2.heap.size, 1, none⟩) (v := .int .i64 (h + n)) k3 (by first | (dsimp only; omega) | (simp; done) | (simp; omega)) (by first | assumption | exact cell_alloc _ (by dsimp only; omega) (by assumption) | (simp [go_sem]; done))
  have fqk3_9 := frozen_after (a := ⟨w2.heap.size, 1, none⟩) k3 (by first | (dsimp only; omega) | (simp; done) | (simp; omega)) (by first | assumption | exact frozen_alloc _ (by dsimp only; omega) (by assumption) | (simp [go_sem]; done))
  have qk3_10 := cell_after (a := ⟨w2.heap.size, 2, none⟩) (v := .int .i64 (r - n)) k3 (by first | (dsimp only; omega) | (simp; done) | (simp; omega)) (by first | assumption | exact cell_alloc _ (by dsimp only; omega) (by assumption) | (simp [go_sem]; done))
  have fqk3_10 := frozen_after (a := ⟨w2.heap.size, 2, none⟩) k3 (by first | (dsimp only; omega) | (simp; done) | (simp; omega)) (by first | assumption | exact frozen_alloc _ (by dsimp only; omega) (by assumption) | (simp [go_sem]; done))
  have s3 := k3.size
  simp only [World.size_alloc] at s3
  have K3 : Below w.heap.size w w3 := bel_trans (bel_alloc K2 _) k3
  have t3 : w.heap.size + 1 + 1 < w3.heap.size := by omega
  have t3' : w.heap.size + 1 < w3.heap.size := by omega
  have t4 : w2.heap.size < w3.heap.size := by omega
  clear k3 s3 K2
  go_wp2_with fail
  refine bodyPost_ret (v := .tuple #[.agg #[.int .i64 c, .int .i64 (h + n), .int .i64 (r - n)], .int .i64 0]) (by simp [results, Try.results77, go_sem, *]) rfl ⟨rfl, (by repeat (first | exact Below.refl _ _ | assumption | refine bel_drew ?_ | refine bel_drewN ?_ _ | refine bel_alloc ?_ _ | refine bel_set ?_ (by first | (dsimp only; omega) | (simp; done) | (simp; omega)) _ | refine bel_trans ?_ (by assumption)))⟩

set_option maxHeartbeats 1000000 in
theorem apply_Grant_no (c h r n : Int) (w : World) (bc : -9223372036854775808 ≤ c ∧ c ≤ 9223372036854775807) (bh : -9223372036854775808 ≤ h ∧ h ≤ 9223372036854775807) (br : -9223372036854775808 ≤ r ∧ r ≤ 9223372036854775807) (bn : -9223372036854775808 ≤ n ∧ n ≤ 9223372036854775807) (hr : PA.right c h r = true) (n1 : 1 ≤ n) (n2 : n ≤ 1048576) (hr2 : PA.right c (h + n) (r - n) = false) :
    Calls Try.prog 77 #[.agg #[.int .i64 c, .int .i64 h, .int .i64 r], .int .i64 n, .agg #[.func (Fn.func 78) #[] #[], .int .i64 20]] w fun e w' => e = .returned (.tuple #[.agg #[.int .i64 0, .int .i64 0, .int .i64 0], .int .i64 20]) ∧ Below w.heap.size w w' := by
  have hi := (PA.right_iff c h r).1 hr
  have i1 := hi.1; have i2 := hi.2.1; have i3 := hi.2.2.1; have i4 := hi.2.2.2.1; have i5 := hi.2.2.2.2
  have i6 : h ≤ 1048576 := by omega
  have i7 : r ≤ 1048576 := by omega
  clear hi
  go_enter Try.func77, Try.ntmps77
  go_wp2_with fail
  refine (account_Right c h r _ bc bh br).mono ?_
  rintro e w1 ⟨rfl, k1⟩
  have qk1_0 := cell_after (a := ⟨w.heap.size, 0, none⟩) (v := .int .i64 c) k1 (by first | (dsimp only; omega) | (simp; done) | (simp; omega)) (by first | assumption | exact cell_alloc _ (by dsimp only; omega) (by assumption) | (simp [go_sem]; done))
  have fqk1_0 := frozen_after (a := ⟨w.heap.size, 0, none⟩) k1 (by first | (dsimp only; omega) | (simp; done) | (simp; omega)) (by first | assumption | exact frozen_alloc _ (by dsimp only; omega) (by assumption) | (simp [go_sem]; done))
  have qk1_1 := cell_after (a := ⟨w.heap.size, 1, none⟩) (v := .int .i64 h) k1 (by first | (dsimp only; omega) | (simp; done) | (simp; omega)) (by first | assumption | exact cell_alloc _ (by dsimp only; omega) (by assumption) | (simp [go_sem]; done))
  have fqk1_1 := frozen_after (a := ⟨w.heap.size, 1, none⟩) k1 (by first | (dsimp only; omega) | (simp; done) | (simp; omega)) (by first | assumption | exact frozen_alloc _ (by dsimp only; omega) (by assumption) | (simp [go_sem]; done))
  have qk1_2 := cell_after (a := ⟨w.heap.size, 2, none⟩) (v := .int .i64 r) k1 (by first | (dsimp only; omega) | (simp; done) | (simp; omega)) (by first | assumption | exact cell_alloc _ (by dsimp only; omega) (by assumption) | (simp [go_sem]; done))
  have fqk1_2 := frozen_after (a := ⟨w.heap.size, 2, none⟩) k1 (by first | (dsimp only; omega) | (simp; done) | (simp; omega)) (by first | assumption | exact frozen_alloc _ (by dsimp only; omega) (by assumption) | (simp [go_sem]; done))
  have qk1_3 := cell_after (a := ⟨w.heap.size + 1, 0, none⟩) (v := .func (Fn.func 78) #[] #[]) k1 (by first | (dsimp only; omega) | (simp; done) | (simp; omega)) (by first | assumption | exact cell_alloc _ (by dsimp only; omega) (by assumption) | (simp [go_sem]; done))
  have fqk1_3 := frozen_after (a := ⟨w.heap.size + 1, 0, none⟩) k1 (by first | (dsimp only; omega) | (simp; done) | (simp; omega)) (by first | assumption | exact frozen_alloc _ (by dsimp only; omega) (by assumption) | (simp [go_sem]; done))
  have qk1_4 := cell_after (a := ⟨w.heap.size + 1, 1, none⟩) (v := .int .i64 20) k1 (by first | (dsimp only; omega) | (simp; done) | (simp; omega)) (by first | assumption | exact cell_alloc _ (by dsimp only; omega) (by assumption) | (simp [go_sem]; done))
  have fqk1_4 := frozen_after (a := ⟨w.heap.size + 1, 1, none⟩) k1 (by first | (dsimp only; omega) | (simp; done) | (simp; omega)) (by first | assumption | exact frozen_alloc _ (by dsimp only; omega) (by assumption) | (simp [go_sem]; done))
  have qk1_5 := cell_after (a := ⟨w.heap.size + 1 + 1, 0, none⟩) (v := .int .i64 0) k1 (by first | (dsimp only; omega) | (simp; done) | (simp; omega)) (by first | assumption | exact cell_alloc _ (by dsimp only; omega) (by assumption) | (simp [go_sem]; done))
  have fqk1_5 := frozen_after (a := ⟨w.heap.size + 1 + 1, 0, none⟩) k1 (by first | (dsimp only; omega) | (simp; done) | (simp; omega)) (by first | assumption | exact frozen_alloc _ (by dsimp only; omega) (by assumption) | (simp [go_sem]; done))
  have qk1_6 := cell_after (a := ⟨w.heap.size + 1 + 1, 1, none⟩) (v := .int .i64 0) k1 (by first | (dsimp only; omega) | (simp; done) | (simp; omega)) (by first | assumption | exact cell_alloc _ (by dsimp only; omega) (by assumption) | (simp [go_sem]; done))
  have fqk1_6 := frozen_after (a := ⟨w.heap.size + 1 + 1, 1, none⟩) k1 (by first | (dsimp only; omega) | (simp; done) | (simp; omega)) (by first | assumption | exact frozen_alloc _ (by dsimp only; omega) (by assumption) | (simp [go_sem]; done))
  have qk1_7 := cell_after (a := ⟨w.heap.size + 1 + 1, 2, none⟩) (v := .int .i64 0) k1 (by first | (dsimp only; omega) | (simp; done) | (simp; omega)) (by first | assumption | exact cell_alloc _ (by dsimp only; omega) (by assumption) | (simp [go_sem]; done))
  have fqk1_7 := frozen_after (a := ⟨w.heap.size + 1 + 1, 2, none⟩) k1 (by first | (dsimp only; omega) | (simp; done) | (simp; omega)) (by first | assumption | exact frozen_alloc _ (by dsimp only; omega) (by assumption) | (simp [go_sem]; done))
  have s1 := k1.size
  simp only [World.size_alloc] at s1
  have s1' : w.heap.size + 1 + 1 < w1.heap.size := by omega
  have s1'' : w.heap.size + 1 < w1.heap.size := by omega
  have s1a : w.heap.size < w1.heap.size := by omega
  have K1 : Below w.heap.size w w1 := (by repeat (first | exact Below.refl _ _ | assumption | refine bel_drew ?_ | refine bel_drewN ?_ _ | refine bel_alloc ?_ _ | refine bel_set ?_ (by first | (dsimp only; omega) | (simp; done) | (simp; omega)) _ | refine bel_trans ?_ (by assumption)))
  clear k1 s1
  go_wp2_with fail
  refine (closure_Grant c h r n _ n1 n2 i3 i4 i6 i7).mono ?_
  rintro e w2 ⟨rfl, k2⟩
  have qk2_0 := cell_after (a := ⟨w.heap.size, 0, none⟩) (v := .int .i64 c) k2 (by first | (dsimp only; omega) | (simp; done) | (simp; omega)) (by first | assumption | exact cell_alloc _ (by dsimp only; omega) (by assumption) | (simp [go_sem]; done))
  have fqk2_0 := frozen_after (a := ⟨w.heap.size, 0, none⟩) k2 (by first | (dsimp only; omega) | (simp; done) | (simp; omega)) (by first | assumption | exact frozen_alloc _ (by dsimp only; omega) (by assumption) | (simp [go_sem]; done))
  have qk2_1 := cell_after (a := ⟨w.heap.size, 1, none⟩) (v := .int .i64 h) k2 (by first | (dsimp only; omega) | (simp; done) | (simp; omega)) (by first | assumption | exact cell_alloc _ (by dsimp only; omega) (by assumption) | (simp [go_sem]; done))
  have fqk2_1 := frozen_after (a := ⟨w.heap.size, 1, none⟩) k2 (by first | (dsimp only; omega) | (simp; done) | (simp; omega)) (by first | assumption | exact frozen_alloc _ (by dsimp only; omega) (by assumption) | (simp [go_sem]; done))
  have qk2_2 := cell_after (a := ⟨w.heap.size, 2, none⟩) (v := .int .i64 r) k2 (by first | (dsimp only; omega) | (simp; done) | (simp; omega)) (by first | assumption | exact cell_alloc _ (by dsimp only; omega) (by assumption) | (simp [go_sem]; done))
  have fqk2_2 := frozen_after (a := ⟨w.heap.size, 2, none⟩) k2 (by first | (dsimp only; omega) | (simp; done) | (simp; omega)) (by first | assumption | exact frozen_alloc _ (by dsimp only; omega) (by assumption) | (simp [go_sem]; done))
  have qk2_3 := cell_after (a := ⟨w.heap.size + 1, 0, none⟩) (v := .func (Fn.func 78) #[] #[]) k2 (by first | (dsimp only; omega) | (simp; done) | (simp; omega)) (by first | assumption | exact cell_alloc _ (by dsimp only; omega) (by assumption) | (simp [go_sem]; done))
  have fqk2_3 := frozen_after (a := ⟨w.heap.size + 1, 0, none⟩) k2 (by first | (dsimp only; omega) | (simp; done) | (simp; omega)) (by first | assumption | exact frozen_alloc _ (by dsimp only; omega) (by assumption) | (simp [go_sem]; done))
  have qk2_4 := cell_after (a := ⟨w.heap.size + 1, 1, none⟩) (v := .int .i64 20) k2 (by first | (dsimp only; omega) | (simp; done) | (simp; omega)) (by first | assumption | exact cell_alloc _ (by dsimp only; omega) (by assumption) | (simp [go_sem]; done))
  have fqk2_4 := frozen_after (a := ⟨w.heap.size + 1, 1, none⟩) k2 (by first | (dsimp only; omega) | (simp; done) | (simp; omega)) (by first | assumption | exact frozen_alloc _ (by dsimp only; omega) (by assumption) | (simp [go_sem]; done))
  have qk2_5 := cell_after (a := ⟨w.heap.size + 1 + 1, 0, none⟩) (v := .int .i64 0) k2 (by first | (dsimp only; omega) | (simp; done) | (simp; omega)) (by first | assumption | exact cell_alloc _ (by dsimp only; omega) (by assumption) | (simp [go_sem]; done))
  have fqk2_5 := frozen_after (a := ⟨w.heap.size + 1 + 1, 0, none⟩) k2 (by first | (dsimp only; omega) | (simp; done) | (simp; omega)) (by first | assumption | exact frozen_alloc _ (by dsimp only; omega) (by assumption) | (simp [go_sem]; done))
  have qk2_6 := cell_after (a := ⟨w.heap.size + 1 + 1, 1, none⟩) (v := .int .i64 0) k2 (by first | (dsimp only; omega) | (simp; done) | (simp; omega)) (by first | assumption | exact cell_alloc _ (by dsimp only; omega) (by assumption) | (simp [go_sem]; done))
  have fqk2_6 := frozen_after (a := ⟨w.heap.size + 1 + 1, 1, none⟩) k2 (by first | (dsimp only; omega) | (simp; done) | (simp; omega)) (by first | assumption | exact frozen_alloc _ (by dsimp only; omega) (by assumption) | (simp [go_sem]; done))
  have qk2_7 := cell_after (a := ⟨w.heap.size + 1 + 1, 2, none⟩) (v := .int .i64 0) k2 (by first | (dsimp only; omega) | (simp; done) | (simp; omega)) (by first | assumption | exact cell_alloc _ (by dsimp only; omega) (by assumption) | (simp [go_sem]; done))
  have fqk2_7 := frozen_after (a := ⟨w.heap.size + 1 + 1, 2, none⟩) k2 (by first | (dsimp only; omega) | (simp; done) | (simp; omega)) (by first | assumption | exact frozen_alloc _ (by dsimp only; omega) (by assumption) | (simp [go_sem]; done))
  have s2 := k2.size
  have K2 : Below w.heap.size w w2 := bel_trans K1 k2
  have t2 : w.heap.size + 1 + 1 < w2.heap.size := by omega
  have t2' : w.heap.size + 1 < w2.heap.size := by omega
  have t2a : w.heap.size < w2.heap.size := by omega
  clear k2 s2 s1' s1'' s1a K1
  go_wp2_with fail
  refine (account_Right _ _ _ _ (by omega) (by omega) (by omega)).mono ?_
  rintro e w3 ⟨rfl, k3⟩
  have qk3_0 := cell_after (a := ⟨w.heap.size, 0, none⟩) (v := .int .i64 c) k3 (by first | (dsimp only; omega) | (simp; done) | (simp; omega)) (by first | assumption | exact cell_alloc _ (by dsimp only; omega) (by assumption) | (simp [go_sem]; done))
  have fqk3_0 := frozen_after (a := ⟨w.heap.size, 0, none⟩) k3 (by first | (dsimp only; omega) | (simp; done) | (simp; omega)) (by first | assumption | exact frozen_alloc _ (by dsimp only; omega) (by assumption) | (simp [go_sem]; done))
  have qk3_1 := cell_after (a := ⟨w.heap.size, 1, none⟩) (v := .int .i64 h) k3 (by first | (dsimp only; omega) | (simp; done) | (simp; omega)) (by first | assumption | exact cell_alloc _ (by dsimp only; omega) (by assumption) | (simp [go_sem]; done))
  have fqk3_1 := frozen_after (a := ⟨w.heap.size, 1, none⟩) k3 (by first | (dsimp only; omega) | (simp; done) | (simp; omega)) (by first | assumption | exact frozen_alloc _ (by dsimp only; omega) (by assumption) | (simp [go_sem]; done))
  have qk3_2 := cell_after (a := ⟨w.heap.size, 2, none⟩) (v := .int .i64 r) k3 (by first | (dsimp only; omega) | (simp; done) | (simp; omega)) (by first | assumption | exact cell_alloc _ (by dsimp only; omega) (by assumption) | (simp [go_sem]; done))
  have fqk3_2 := frozen_after (a := ⟨w.heap.size, 2, none⟩) k3 (by first | (dsimp only; omega) | (simp; done) | (simp; omega)) (by first | assumption | exact frozen_alloc _ (by dsimp only; omega) (by assumption) | (simp [go_sem]; done))
  have qk3_3 := cell_after (a := ⟨w.heap.size + 1, 0, none⟩) (v := .func (Fn.func 78) #[] #[]) k3 (by first | (dsimp only; omega) | (simp; done) | (simp; omega)) (by first | assumption | exact cell_alloc _ (by dsimp only; omega) (by assumption) | (simp [go_sem]; done))
  have fqk3_3 := frozen_after (a := ⟨w.heap.size + 1, 0, none⟩) k3 (by first | (dsimp only; omega) | (simp; done) | (simp; omega)) (by first | assumption | exact frozen_alloc _ (by dsimp only; omega) (by assumption) | (simp [go_sem]; done))
  have qk3_4 := cell_after (a := ⟨w.heap.size + 1, 1, none⟩) (v := .int .i64 20) k3 (by first | (dsimp only; omega) | (simp; done) | (simp; omega)) (by first | assumption | exact cell_alloc _ (by dsimp only; omega) (by assumption) | (simp [go_sem]; done))
  have fqk3_4 := frozen_after (a := ⟨w.heap.size + 1, 1, none⟩) k3 (by first | (dsimp only; omega) | (simp; done) | (simp; omega)) (by first | assumption | exact frozen_alloc _ (by dsimp only; omega) (by assumption) | (simp [go_sem]; done))
  have qk3_5 := cell_after (a := ⟨w.heap.size + 1 + 1, 0, none⟩) (v := .int .i64 0) k3 (by first | (dsimp only; omega) | (simp; done) | (simp; omega)) (by first | assumption | exact cell_alloc _ (by dsimp only; omega) (by assumption) | (simp [go_sem]; done))
  have fqk3_5 := frozen_after (a := ⟨w.heap.size + 1 + 1, 0, none⟩) k3 (by first | (dsimp only; omega) | (simp; done) | (simp; omega)) (by first | assumption | exact frozen_alloc _ (by dsimp only; omega) (by assumption) | (simp [go_sem]; done))
  have qk3_6 := cell_after (a := ⟨w.heap.size + 1 + 1, 1, none⟩) (v := .int .i64 0) k3 (by first | (dsimp only; omega) | (simp; done) | (simp; omega)) (by first | assumption | exact cell_alloc _ (by dsimp only; omega) (by assumption) | (simp [go_sem]; done))
  have fqk3_6 := frozen_after (a := ⟨w.heap.size + 1 + 1, 1, none⟩) k3 (by first | (dsimp only; omega) | (simp; done) | (simp; omega)) (by first | assumption | exact frozen_alloc _ (by dsimp only; omega) (by assumption) | (simp [go_sem]; done))
  have qk3_7 := cell_after (a := ⟨w.heap.size + 1 + 1, 2, none⟩) (v := .int .i64 0) k3 (by first | (dsimp only; omega) | (simp; done) | (simp; omega)) (by first | assumption | exact cell_alloc _ (by dsimp only; omega) (by assumption) | (simp [go_sem]; done))
  have fqk3_7 := frozen_after (a := ⟨w.heap.size + 1 + 1, 2, none⟩) k3 (by first | (dsimp only; omega) | (simp; done) | (simp; omega)) (by first | assumption | exact frozen_alloc _ (by dsimp only; omega) (by assumption) | (simp [go_sem]; done))
  have qk3_8 := cell_after (a := ⟨w2.heap.size, 0, none⟩) (v := .int .i64 c) k3 (by first | (dsimp only; omega) | (simp; done) | (simp; omega)) (by first | assumption | exact cell_alloc _ (by dsimp only; omega) (by assumption) | (simp [go_sem]; done))
  have fqk3_8 := frozen_after (a := ⟨w2.heap.size, 0, none⟩) k3 (by first | (dsimp only; omega) | (simp; done) | (simp; omega)) (by first | assumption | exact frozen_alloc _ (by dsimp only; omega) (by assumption) | (simp [go_sem]; done))
  have qk3_9 := cell_after (a := ⟨w2.heap.size, 1, none⟩) (v := .int .i64 (h + n)) k3 (by first | (dsimp only; omega) | (simp; done) | (simp; omega)) (by first | assumption | exact cell_alloc _ (by dsimp only; omega) (by assumption) | (simp [go_sem]; done))
  have fqk3_9 := frozen_after (a := ⟨w2.heap.size, 1, none⟩) k3 (by first | (dsimp only; omega) | (simp; done) | (simp; omega)) (by first | assumption | exact frozen_alloc _ (by dsimp only; omega) (by assumption) | (simp [go_sem]; done))
  have qk3_10 := cell_after (a := ⟨w2.heap.size, 2, none⟩) (v := .int .i64 (r - n)) k3 (by first | (dsimp only; omega) | (simp; done) | (simp; omega)) (by first | assumption | exact cell_alloc _ (by dsimp only; omega) (by assumption) | (simp [go_sem]; done))
  have fqk3_10 := frozen_after (a := ⟨w2.heap.size, 2, none⟩) k3 (by first | (dsimp only; omega) | (simp; done) | (simp; omega)) (by first | assumption | exact frozen_alloc _ (by dsimp only; omega) (by assumption) | (simp [go_sem]; done))
  have s3 := k3.size
  simp only [World.size_alloc] at s3
  have K3 : Below w.heap.size w w3 := bel_trans (bel_alloc K2 _) k3
  have t3 : w.heap.size + 1 + 1 < w3.heap.size := by omega
  have t3' : w.heap.size + 1 < w3.heap.size := by omega
  have t4 : w2.heap.size < w3.heap.size := by omega
  clear k3 s3 K2
  go_wp2_with fail
  go_region
  all_goals go_wp2
  all_goals (refine bodyPost_ret (v := .tuple #[.agg #[.int .i64 0, .int .i64 0, .int .i64 0], .int .i64 20]) (by simp [results, Try.results77, go_sem, *]) rfl ⟨rfl, (by repeat (first | exact Below.refl _ _ | assumption | refine bel_drew ?_ | refine bel_drewN ?_ _ | refine bel_alloc ?_ _ | refine bel_set ?_ (by first | (dsimp only; omega) | (simp; done) | (simp; omega)) _ | refine bel_trans ?_ (by assumption)))⟩)

theorem apply_Grant (c h r n : Int) (w : World) (bc : -9223372036854775808 ≤ c ∧ c ≤ 9223372036854775807) (bh : -9223372036854775808 ≤ h ∧ h ≤ 9223372036854775807) (br : -9223372036854775808 ≤ r ∧ r ≤ 9223372036854775807) (bn : -9223372036854775808 ≤ n ∧ n ≤ 9223372036854775807) :
    Calls Try.prog 77 #[.agg #[.int .i64 c, .int .i64 h, .int .i64 r], .int .i64 n, .agg #[.func (Fn.func 78) #[] #[], .int .i64 20]] w fun e w' => e = .returned (.tuple #[.agg #[.int .i64 (PA.doo 2 c h r n).1.1, .int .i64 (PA.doo 2 c h r n).1.2.1, .int .i64 (PA.doo 2 c h r n).1.2.2], .int .i64 (PA.doo 2 c h r n).2]) ∧ Below w.heap.size w w' := by
  cases hr : PA.right c h r
  · rw [PA.doo_arg (Or.inl hr)]; exact apply_nr c h r n w bc bh br bn _ _ hr
  · have hi := (PA.right_iff c h r).1 hr
    by_cases n1 : 1 ≤ n
    · by_cases n2 : n ≤ 1048576
      · by_cases hy : n ≤ r
        · rw [PA.doo2_yes hr n1 hy]; exact apply_Grant_ok c h r n w bc bh br bn hr n1 n2 ((PA.right_iff _ _ _).2 (by omega))
        · rw [PA.doo2_no hr n1 (by omega)]; exact apply_Grant_no c h r n w bc bh br bn hr n1 n2 ((PA.right_no _ _ _).2 (by omega))
      · rw [PA.doo2_no hr n1 (by omega)]; exact apply_big c h r n w bc bh br bn _ _ hr (by omega)
    · rw [PA.doo_arg (Or.inr (by omega))]; exact apply_n0 c h r n w bc bh br bn _ _ hr (by omega)

set_option maxHeartbeats 1000000 in
theorem account_Grant (c h r n : Int) (w : World) (bc : -9223372036854775808 ≤ c ∧ c ≤ 9223372036854775807) (bh : -9223372036854775808 ≤ h ∧ h ≤ 9223372036854775807) (br : -9223372036854775808 ≤ r ∧ r ≤ 9223372036854775807) (bn : -9223372036854775808 ≤ n ∧ n ≤ 9223372036854775807) :
    Calls Try.prog 59 #[.agg #[.int .i64 c, .int .i64 h, .int .i64 r], .int .i64 n] w fun e w' => e = .returned (.tuple #[.agg #[.int .i64 (PA.doo 2 c h r n).1.1, .int .i64 (PA.doo 2 c h r n).1.2.1, .int .i64 (PA.doo 2 c h r n).1.2.2], .int .i64 (PA.doo 2 c h r n).2]) ∧ Below w.heap.size w w' := by
  go_enter Try.func59, Try.ntmps59
  go_wp2_with fail
  refine (apply_Grant c h r n _ bc bh br bn).mono ?_
  rintro e w1 ⟨rfl, k1⟩
  have qk1_0 := cell_after (a := ⟨w.heap.size + 1, 0, none⟩) (v := .int .i64 0) k1 (by first | (dsimp only; omega) | (simp; done) | (simp; omega)) (by first | assumption | exact cell_alloc _ (by dsimp only; omega) (by assumption) | (simp [go_sem]; done))
  have fqk1_0 := frozen_after (a := ⟨w.heap.size + 1, 0, none⟩) k1 (by first | (dsimp only; omega) | (simp; done) | (simp; omega)) (by first | assumption | exact frozen_alloc _ (by dsimp only; omega) (by assumption) | (simp [go_sem]; done))
  have qk1_1 := cell_after (a := ⟨w.heap.size + 1, 1, none⟩) (v := .int .i64 0) k1 (by first | (dsimp only; omega) | (simp; done) | (simp; omega)) (by first | assumption | exact cell_alloc _ (by dsimp only; omega) (by assumption) | (simp [go_sem]; done))
  have fqk1_1 := frozen_after (a := ⟨w.heap.size + 1, 1, none⟩) k1 (by first | (dsimp only; omega) | (simp; done) | (simp; omega)) (by first | assumption | exact frozen_alloc _ (by dsimp only; omega) (by assumption) | (simp [go_sem]; done))
  have qk1_2 := cell_after (a := ⟨w.heap.size + 1, 2, none⟩) (v := .int .i64 0) k1 (by first | (dsimp only; omega) | (simp; done) | (simp; omega)) (by first | assumption | exact cell_alloc _ (by dsimp only; omega) (by assumption) | (simp [go_sem]; done))
  have fqk1_2 := frozen_after (a := ⟨w.heap.size + 1, 2, none⟩) k1 (by first | (dsimp only; omega) | (simp; done) | (simp; omega)) (by first | assumption | exact frozen_alloc _ (by dsimp only; omega) (by assumption) | (simp [go_sem]; done))
  have s1 := k1.size
  simp only [World.size_alloc] at s1
  have K1 : Below w.heap.size w w1 := (by repeat (first | exact Below.refl _ _ | assumption | refine bel_drew ?_ | refine bel_drewN ?_ _ | refine bel_alloc ?_ _ | refine bel_set ?_ (by first | (dsimp only; omega) | (simp; done) | (simp; omega)) _ | refine bel_trans ?_ (by assumption)))
  clear k1
  go_wp2_with fail
  refine bodyPost_ret (v := .tuple #[.agg #[.int .i64 (PA.doo 2 c h r n).1.1, .int .i64 (PA.doo 2 c h r n).1.2.1, .int .i64 (PA.doo 2 c h r n).1.2.2], .int .i64 (PA.doo 2 c h r n).2]) (by simp [results, Try.results59, go_sem, *]) rfl ⟨rfl, (by repeat (first | exact Below.refl _ _ | assumption | refine bel_drew ?_ | refine bel_drewN ?_ _ | refine bel_alloc ?_ _ | refine bel_set ?_ (by first | (dsimp only; omega) | (simp; done) | (simp; omega)) _ | refine bel_trans ?_ (by assumption)))⟩

theorem ref26_Right (c h r : Int) (w : World) (bc : -9223372036854775808 ≤ c ∧ c ≤ 9223372036854775807) (bh : -9223372036854775808 ≤ h ∧ h ≤ 9223372036854775807) (br : -9223372036854775808 ≤ r ∧ r ≤ 9223372036854775807) :
    Calls Try.prog 22 #[.agg #[.int .i64 c, .int .i64 h, .int .i64 r]] w fun e w' => e = .returned (.bool (PA.right c h r)) ∧ Below w.heap.size w w' := by
  by_cases g : 0 ≤ h ∧ 1 ≤ c ∧ c ≤ 1048576 ∧ h ≤ c
  · obtain ⟨g1, g2, g3, g4⟩ := g
    go_enter Try.func22, Try.ntmps22
    go_wp2
    all_goals (go_ret; exact ⟨ret_bool (by rw [Bool.eq_iff_iff, PA.right_iff]; (try simp); (try omega)), (by repeat (first | exact Below.refl _ _ | assumption | refine bel_drew ?_ | refine bel_drewN ?_ _ | refine bel_alloc ?_ _ | refine bel_set ?_ (by first | (dsimp only; omega) | (simp; done) | (simp; omega)) _ | refine bel_trans ?_ (by assumption)))⟩)
  · have G := Lib.hid g
    clear g
    have hr : PA.right c h r = false := (PA.right_no _ _ _).2 (by have := G.out; omega)
    rw [hr]
    clear hr
    go_enter Try.func22, Try.ntmps22
    go_wp2
    all_goals (go_ret; exact ⟨ret_bool (by first | rfl | (exfalso; have := G.out; omega) | (have := G.out; simp; omega)), (by repeat (first | exact Below.refl _ _ | assumption | refine bel_drew ?_ | refine bel_drewN ?_ _ | refine bel_alloc ?_ _ | refine bel_set ?_ (by first | (dsimp only; omega) | (simp; done) | (simp; omega)) _ | refine bel_trans ?_ (by assumption)))⟩)

theorem ref26_Do2_nr (c h r n : Int) (w : World) (bc : -9223372036854775808 ≤ c ∧ c ≤ 9223372036854775807) (bh : -9223372036854775808 ≤ h ∧ h ≤ 9223372036854775807) (br : -9223372036854775808 ≤ r ∧ r ≤ 9223372036854775807) (bn : -9223372036854775808 ≤ n ∧ n ≤ 9223372036854775807) (hr : PA.right c h r = false) :
    Calls Try.prog 60 #[.int .i64 2, .agg #[.int .i64 c, .int .i64 h, .int .i64 r], .int .i64 n] w fun e w' => e = .returned (.tuple #[.agg #[.int .i64 0, .int .i64 0, .int .i64 0], .int .i64 2]) ∧ Below w.heap.size w w' := by
  go_enter Try.func60, Try.ntmps60
  go_wp2_with fail
  refine (ref26_Right c h r _ bc bh br).mono ?_
  rintro e w1 ⟨rfl, k1⟩
  have qk1_0 := cell_after (a := ⟨w.heap.size, 0, none⟩) (v := .int .i64 c) k1 (by first | (dsimp only; omega) | (simp; done) | (simp; omega)) (by first | assumption | exact cell_alloc _ (by dsimp only; omega) (by assumption) | (simp [go_sem]; done))
  have fqk1_0 := frozen_after (a := ⟨w.heap.size, 0, none⟩) k1 (by first | (dsimp only; omega) | (simp; done) | (simp; omega)) (by first | assumption | exact frozen_alloc _ (by dsimp only; omega) (by assumption) | (simp [go_sem]; done))
  have qk1_1 := cell_after (a := ⟨w.heap.size, 1, none⟩) (v := .int .i64 h) k1 (by first | (dsimp only; omega) | (simp; done) | (simp; omega)) (by first | assumption | exact cell_alloc _ (by dsimp only; omega) (by assumption) | (simp [go_sem]; done))
  have fqk1_1 := frozen_after (a := ⟨w.heap.size, 1, none⟩) k1 (by first | (dsimp only; omega) | (simp; done) | (simp; omega)) (by first | assumption | exact frozen_alloc _ (by dsimp only; omega) (by assumption) | (simp [go_sem]; done))
  have qk1_2 := cell_after (a := ⟨w.heap.size, 2, none⟩) (v := .int .i64 r) k1 (by first | (dsimp only; omega) | (simp; done) | (simp; omega)) (by first | assumption | exact cell_alloc _ (by dsimp only; omega) (by assumption) | (simp [go_sem]; done))
  have fqk1_2 := frozen_after (a := ⟨w.heap.size, 2, none⟩) k1 (by first | (dsimp only; omega) | (simp; done) | (simp; omega)) (by first | assumption | exact frozen_alloc _ (by dsimp only; omega) (by assumption) | (simp [go_sem]; done))
  have qk1_3 := cell_after (a := ⟨w.heap.size + 1, 0, none⟩) (v := .int .i64 0) k1 (by first | (dsimp only; omega) | (simp; done) | (simp; omega)) (by first | assumption | exact cell_alloc _ (by dsimp only; omega) (by assumption) | (simp [go_sem]; done))
  have fqk1_3 := frozen_after (a := ⟨w.heap.size + 1, 0, none⟩) k1 (by first | (dsimp only; omega) | (simp; done) | (simp; omega)) (by first | assumption | exact frozen_alloc _ (by dsimp only; omega) (by assumption) | (simp [go_sem]; done))
  have qk1_4 := cell_after (a := ⟨w.heap.size + 1, 1, none⟩) (v := .int .i64 0) k1 (by first | (dsimp only; omega) | (simp; done) | (simp; omega)) (by first | assumption | exact cell_alloc _ (by dsimp only; omega) (by assumption) | (simp [go_sem]; done))
  have fqk1_4 := frozen_after (a := ⟨w.heap.size + 1, 1, none⟩) k1 (by first | (dsimp only; omega) | (simp; done) | (simp; omega)) (by first | assumption | exact frozen_alloc _ (by dsimp only; omega) (by assumption) | (simp [go_sem]; done))
  have qk1_5 := cell_after (a := ⟨w.heap.size + 1, 2, none⟩) (v := .int .i64 0) k1 (by first | (dsimp only; omega) | (simp; done) | (simp; omega)) (by first | assumption | exact cell_alloc _ (by dsimp only; omega) (by assumption) | (simp [go_sem]; done))
  have fqk1_5 := frozen_after (a := ⟨w.heap.size + 1, 2, none⟩) k1 (by first | (dsimp only; omega) | (simp; done) | (simp; omega)) (by first | assumption | exact frozen_alloc _ (by dsimp only; omega) (by assumption) | (simp [go_sem]; done))
  have s1 := k1.size
  simp only [World.size_alloc] at s1
  have K1 : Below w.heap.size w w1 := (by repeat (first | exact Below.refl _ _ | assumption | refine bel_drew ?_ | refine bel_drewN ?_ _ | refine bel_alloc ?_ _ | refine bel_set ?_ (by first | (dsimp only; omega) | (simp; done) | (simp; omega)) _ | refine bel_trans ?_ (by assumption)))
  clear k1
  go_wp2_with fail
  refine bodyPost_ret (v := .tuple #[.agg #[.int .i64 0, .int .i64 0, .int .i64 0], .int .i64 2]) (by simp [results, Try.results60, go_sem, *]) rfl ⟨rfl, (by repeat (first | exact Below.refl _ _ | assumption | refine bel_drew ?_ | refine bel_drewN ?_ _ | refine bel_alloc ?_ _ | refine bel_set ?_ (by first | (dsimp only; omega) | (simp; done) | (simp; omega)) _ | refine bel_trans ?_ (by assumption)))⟩

theorem ref26_Do2_n0 (c h r n : Int) (w : World) (bc : -9223372036854775808 ≤ c ∧ c ≤ 9223372036854775807) (bh : -9223372036854775808 ≤ h ∧ h ≤ 9223372036854775807) (br : -9223372036854775808 ≤ r ∧ r ≤ 9223372036854775807) (bn : -9223372036854775808 ≤ n ∧ n ≤ 9223372036854775807) (hr : PA.right c h r = true) (n1 : n < 1) :
    Calls Try.prog 60 #[.int .i64 2, .agg #[.int .i64 c, .int .i64 h, .int .i64 r], .int .i64 n] w fun e w' => e = .returned (.tuple #[.agg #[.int .i64 0, .int .i64 0, .int .i64 0], .int .i64 2]) ∧ Below w.heap.size w w' := by
  go_enter Try.func60, Try.ntmps60
  go_wp2_with fail
  refine (ref26_Right c h r _ bc bh br).mono ?_
  rintro e w1 ⟨rfl, k1⟩
  have qk1_0 := cell_after (a := ⟨w.heap.size, 0, none⟩) (v := .int .i64 c) k1 (by first | (dsimp only; omega) | (simp; done) | (simp; omega)) (by first | assumption | exact cell_alloc _ (by dsimp only; omega) (by assumption) | (simp [go_sem]; done))
  have fqk1_0 := frozen_after (a := ⟨w.heap.size, 0, none⟩) k1 (by first | (dsimp only; omega) | (simp; done) | (simp; omega)) (by first | assumption | exact frozen_alloc _ (by dsimp only; omega) (by assumption) | (simp [go_sem]; done))
  have qk1_1 := cell_after (a := ⟨w.heap.size, 1, none⟩) (v := .int .i64 h) k1 (by first | (dsimp only; omega) | (simp; done) | (simp; omega)) (by first | assumption | exact cell_alloc _ (by dsimp only; omega) (by assumption) | (simp [go_sem]; done))
  have fqk1_1 := frozen_after (a := ⟨w.heap.size, 1, none⟩) k1 (by first | (dsimp only; omega) | (simp; done) | (simp; omega)) (by first | assumption | exact frozen_alloc _ (by dsimp only; omega) (by assumption) | (simp [go_sem]; done))
  have qk1_2 := cell_after (a := ⟨w.heap.size, 2, none⟩) (v := .int .i64 r) k1 (by first | (dsimp only; omega) | (simp; done) | (simp; omega)) (by first | assumption | exact cell_alloc _ (by dsimp only; omega) (by assumption) | (simp [go_sem]; done))
  have fqk1_2 := frozen_after (a := ⟨w.heap.size, 2, none⟩) k1 (by first | (dsimp only; omega) | (simp; done) | (simp; omega)) (by first | assumption | exact frozen_alloc _ (by dsimp only; omega) (by assumption) | (simp [go_sem]; done))
  have qk1_3 := cell_after (a := ⟨w.heap.size + 1, 0, none⟩) (v := .int .i64 0) k1 (by first | (dsimp only; omega) | (simp; done) | (simp; omega)) (by first | assumption | exact cell_alloc _ (by dsimp only; omega) (by assumption) | (simp [go_sem]; done))
  have fqk1_3 := frozen_after (a := ⟨w.heap.size + 1, 0, none⟩) k1 (by first | (dsimp only; omega) | (simp; done) | (simp; omega)) (by first | assumption | exact frozen_alloc _ (by dsimp only; omega) (by assumption) | (simp [go_sem]; done))
  have qk1_4 := cell_after (a := ⟨w.heap.size + 1, 1, none⟩) (v := .int .i64 0) k1 (by first | (dsimp only; omega) | (simp; done) | (simp; omega)) (by first | assumption | exact cell_alloc _ (by dsimp only; omega) (by assumption) | (simp [go_sem]; done))
  have fqk1_4 := frozen_after (a := ⟨w.heap.size + 1, 1, none⟩) k1 (by first | (dsimp only; omega) | (simp; done) | (simp; omega)) (by first | assumption | exact frozen_alloc _ (by dsimp only; omega) (by assumption) | (simp [go_sem]; done))
  have qk1_5 := cell_after (a := ⟨w.heap.size + 1, 2, none⟩) (v := .int .i64 0) k1 (by first | (dsimp only; omega) | (simp; done) | (simp; omega)) (by first | assumption | exact cell_alloc _ (by dsimp only; omega) (by assumption) | (simp [go_sem]; done))
  have fqk1_5 := frozen_after (a := ⟨w.heap.size + 1, 2, none⟩) k1 (by first | (dsimp only; omega) | (simp; done) | (simp; omega)) (by first | assumption | exact frozen_alloc _ (by dsimp only; omega) (by assumption) | (simp [go_sem]; done))
  have s1 := k1.size
  simp only [World.size_alloc] at s1
  have K1 : Below w.heap.size w w1 := (by repeat (first | exact Below.refl _ _ | assumption | refine bel_drew ?_ | refine bel_drewN ?_ _ | refine bel_alloc ?_ _ | refine bel_set ?_ (by first | (dsimp only; omega) | (simp; done) | (simp; omega)) _ | refine bel_trans ?_ (by assumption)))
  clear k1
  go_wp2_with fail
  refine bodyPost_ret (v := .tuple #[.agg #[.int .i64 0, .int .i64 0, .int .i64 0], .int .i64 2]) (by simp [results, Try.results60, go_sem, *]) rfl ⟨rfl, (by repeat (first | exact Below.refl _ _ | assumption | refine bel_drew ?_ | refine bel_drewN ?_ _ | refine bel_alloc ?_ _ | refine bel_set ?_ (by first | (dsimp only; omega) | (simp; done) | (simp; omega)) _ | refine bel_trans ?_ (by assumption)))⟩

theorem ref26_Do2_ok (c h r n : Int) (w : World) (bc : -9223372036854775808 ≤ c ∧ c ≤ 9223372036854775807) (bh : -9223372036854775808 ≤ h ∧ h ≤ 9223372036854775807) (br : -9223372036854775808 ≤ r ∧ r ≤ 9223372036854775807) (bn : -9223372036854775808 ≤ n ∧ n ≤ 9223372036854775807) (hr : PA.right c h r = true) (n1 : 1 ≤ n) (n2 : n ≤ r) :
    Calls Try.prog 60 #[.int .i64 2, .agg #[.int .i64 c, .int .i64 h, .int .i64 r], .int .i64 n] w fun e w' => e = .returned (.tuple #[.agg #[.int .i64 c, .int .i64 (h + n), .int .i64 (r - n)], .int .i64 0]) ∧ Below w.heap.size w w' := by
  have hi := (PA.right_iff c h r).1 hr
  have i1 := hi.1; have i2 := hi.2.1; have i3 := hi.2.2.1; have i4 := hi.2.2.2.1; have i5 := hi.2.2.2.2
  have i6 : h ≤ 1048576 := by omega
  have i7 : r ≤ 1048576 := by omega
  have i8 : n ≤ 1048576 := by omega
  clear hi
  go_enter Try.func60, Try.ntmps60
  go_wp2_with fail
  refine (ref26_Right c h r _ bc bh br).mono ?_
  rintro e w1 ⟨rfl, k1⟩
  have qk1_0 := cell_after (a := ⟨w.heap.size, 0, none⟩) (v := .int .i64 c) k1 (by first | (dsimp only; omega) | (simp; done) | (simp; omega)) (by first | assumption | exact cell_alloc _ (by dsimp only; omega) (by assumption) | (simp [go_sem]; done))
  have fqk1_0 := frozen_after (a := ⟨w.heap.size, 0, none⟩) k1 (by first | (dsimp only; omega) | (simp; done) | (simp; omega)) (by first | assumption | exact frozen_alloc _ (by dsimp only; omega) (by assumption) | (simp [go_sem]; done))
  have qk1_1 := cell_after (a := ⟨w.heap.size, 1, none⟩) (v := .int .i64 h) k1 (by first | (dsimp only; omega) | (simp; done) | (simp; omega)) (by first | assumption | exact cell_alloc _ (by dsimp only; omega) (by assumption) | (simp [go_sem]; done))
  have fqk1_1 := frozen_after (a := ⟨w.heap.size, 1, none⟩) k1 (by first | (dsimp only; omega) | (simp; done) | (simp; omega)) (by first | assumption | exact frozen_alloc _ (by dsimp only; omega) (by assumption) | (simp [go_sem]; done))
  have qk1_2 := cell_after (a := ⟨w.heap.size, 2, none⟩) (v := .int .i64 r) k1 (by first | (dsimp only; omega) | (simp; done) | (simp; omega)) (by first | assumption | exact cell_alloc _ (by dsimp only; omega) (by assumption) | (simp [go_sem]; done))
  have fqk1_2 := frozen_after (a := ⟨w.heap.size, 2, none⟩) k1 (by first | (dsimp only; omega) | (simp; done) | (simp; omega)) (by first | assumption | exact frozen_alloc _ (by dsimp only; omega) (by assumption) | (simp [go_sem]; done))
  have qk1_3 := cell_after (a := ⟨w.heap.size + 1, 0, none⟩) (v := .int .i64 0) k1 (by first | (dsimp only; omega) | (simp; done) | (simp; omega)) (by first | assumption | exact cell_alloc _ (by dsimp only; omega) (by assumption) | (simp [go_sem]; done))
  have fqk1_3 := frozen_after (a := ⟨w.heap.size + 1, 0, none⟩) k1 (by first | (dsimp only; omega) | (simp; done) | (simp; omega)) (by first | assumption | exact frozen_alloc _ (by dsimp only; omega) (by assumption) | (simp [go_sem]; done))
  have qk1_4 := cell_after (a := ⟨w.heap.size + 1, 1, none⟩) (v := .int .i64 0) k1 (by first | (dsimp only; omega) | (simp; done) | (simp; omega)) (by first | assumption | exact cell_alloc _ (by dsimp only; omega) (by assumption) | (simp [go_sem]; done))
  have fqk1_4 := frozen_after (a := ⟨w.heap.size + 1, 1, none⟩) k1 (by first | (dsimp only; omega) | (simp; done) | (simp; omega)) (by first | assumption | exact frozen_alloc _ (by dsimp only; omega) (by assumption) | (simp [go_sem]; done))
  have qk1_5 := cell_after (a := ⟨w.heap.size + 1, 2, none⟩) (v := .int .i64 0) k1 (by first | (dsimp only; omega) | (simp; done) | (simp; omega)) (by first | assumption | exact cell_alloc _ (by dsimp only; omega) (by assumption) | (simp [go_sem]; done))
  have fqk1_5 := frozen_after (a := ⟨w.heap.size + 1, 2, none⟩) k1 (by first | (dsimp only; omega) | (simp; done) | (simp; omega)) (by first | assumption | exact frozen_alloc _ (by dsimp only; omega) (by assumption) | (simp [go_sem]; done))
  have s1 := k1.size
  simp only [World.size_alloc] at s1
  have K1 : Below w.heap.size w w1 := (by repeat (first | exact Below.refl _ _ | assumption | refine bel_drew ?_ | refine bel_drewN ?_ _ | refine bel_alloc ?_ _ | refine bel_set ?_ (by first | (dsimp only; omega) | (simp; done) | (simp; omega)) _ | refine bel_trans ?_ (by assumption)))
  clear k1
  go_wp2_with fail
  refine bodyPost_ret (v := .tuple #[.agg #[.int .i64 c, .int .i64 (h + n), .int .i64 (r - n)], .int .i64 0]) (by simp [results, Try.results60, go_sem, *]) rfl ⟨rfl, (by repeat (first | exact Below.refl _ _ | assumption | refine bel_drew ?_ | refine bel_drewN ?_ _ | refine bel_alloc ?_ _ | refine bel_set ?_ (by first | (dsimp only; omega) | (simp; done) | (simp; omega)) _ | refine bel_trans ?_ (by assumption)))⟩

theorem ref26_Do2_no (c h r n : Int) (w : World) (bc : -9223372036854775808 ≤ c ∧ c ≤ 9223372036854775807) (bh : -9223372036854775808 ≤ h ∧ h ≤ 9223372036854775807) (br : -9223372036854775808 ≤ r ∧ r ≤ 9223372036854775807) (bn : -9223372036854775808 ≤ n ∧ n ≤ 9223372036854775807) (hr : PA.right c h r = true) (n1 : 1 ≤ n) (n2 : r < n) :
    Calls Try.prog 60 #[.int .i64 2, .agg #[.int .i64 c, .int .i64 h, .int .i64 r], .int .i64 n] w fun e w' => e = .returned (.tuple #[.agg #[.int .i64 0, .int .i64 0, .int .i64 0], .int .i64 20]) ∧ Below w.heap.size w w' := by
  have hi := (PA.right_iff c h r).1 hr
  have i1 := hi.1; have i2 := hi.2.1; have i3 := hi.2.2.1; have i4 := hi.2.2.2.1; have i5 := hi.2.2.2.2
  have i6 : h ≤ 1048576 := by omega
  have i7 : r ≤ 1048576 := by omega
  clear hi
  go_enter Try.func60, Try.ntmps60
  go_wp2_with fail
  refine (ref26_Right c h r _ bc bh br).mono ?_
  rintro e w1 ⟨rfl, k1⟩
  have qk1_0 := cell_after (a := ⟨w.heap.size, 0, none⟩) (v := .int .i64 c) k1 (by first | (dsimp only; omega) | (simp; done) | (simp; omega)) (by first | assumption | exact cell_alloc _ (by dsimp only; omega) (by assumption) | (simp [go_sem]; done))
  have fqk1_0 := frozen_after (a := ⟨w.heap.size, 0, none⟩) k1 (by first | (dsimp only; omega) | (simp; done) | (simp; omega)) (by first | assumption | exact frozen_alloc _ (by dsimp only; omega) (by assumption) | (simp [go_sem]; done))
  have qk1_1 := cell_after (a := ⟨w.heap.size, 1, none⟩) (v := .int .i64 h) k1 (by first | (dsimp only; omega) | (simp; done) | (simp; omega)) (by first | assumption | exact cell_alloc _ (by dsimp only; omega) (by assumption) | (simp [go_sem]; done))
  have fqk1_1 := frozen_after (a := ⟨w.heap.size, 1, none⟩) k1 (by first | (dsimp only; omega) | (simp; done) | (simp; omega)) (by first | assumption | exact frozen_alloc _ (by dsimp only; omega) (by assumption) | (simp [go_sem]; done))
  have qk1_2 := cell_after (a := ⟨w.heap.size, 2, none⟩) (v := .int .i64 r) k1 (by first | (dsimp only; omega) | (simp; done) | (simp; omega)) (by first | assumption | exact cell_alloc _ (by dsimp only; omega) (by assumption) | (simp [go_sem]; done))
  have fqk1_2 := frozen_after (a := ⟨w.heap.size, 2, none⟩) k1 (by first | (dsimp only; omega) | (simp; done) | (simp; omega)) (by first | assumption | exact frozen_alloc _ (by dsimp only; omega) (by assumption) | (simp [go_sem]; done))
  have qk1_3 := cell_after (a := ⟨w.heap.size + 1, 0, none⟩) (v := .int .i64 0) k1 (by first | (dsimp only; omega) | (simp; done) | (simp; omega)) (by first | assumption | exact cell_alloc _ (by dsimp only; omega) (by assumption) | (simp [go_sem]; done))
  have fqk1_3 := frozen_after (a := ⟨w.heap.size + 1, 0, none⟩) k1 (by first | (dsimp only; omega) | (simp; done) | (simp; omega)) (by first | assumption | exact frozen_alloc _ (by dsimp only; omega) (by assumption) | (simp [go_sem]; done))
  have qk1_4 := cell_after (a := ⟨w.heap.size + 1, 1, none⟩) (v := .int .i64 0) k1 (by first | (dsimp only; omega) | (simp; done) | (simp; omega)) (by first | assumption | exact cell_alloc _ (by dsimp only; omega) (by assumption) | (simp [go_sem]; done))
  have fqk1_4 := frozen_after (a := ⟨w.heap.size + 1, 1, none⟩) k1 (by first | (dsimp only; omega) | (simp; done) | (simp; omega)) (by first | assumption | exact frozen_alloc _ (by dsimp only; omega) (by assumption) | (simp [go_sem]; done))
  have qk1_5 := cell_after (a := ⟨w.heap.size + 1, 2, none⟩) (v := .int .i64 0) k1 (by first | (dsimp only; omega) | (simp; done) | (simp; omega)) (by first | assumption | exact cell_alloc _ (by dsimp only; omega) (by assumption) | (simp [go_sem]; done))
  have fqk1_5 := frozen_after (a := ⟨w.heap.size + 1, 2, none⟩) k1 (by first | (dsimp only; omega) | (simp; done) | (simp; omega)) (by first | assumption | exact frozen_alloc _ (by dsimp only; omega) (by assumption) | (simp [go_sem]; done))
  have s1 := k1.size
  simp only [World.size_alloc] at s1
  have K1 : Below w.heap.size w w1 := (by repeat (first | exact Below.refl _ _ | assumption | refine bel_drew ?_ | refine bel_drewN ?_ _ | refine bel_alloc ?_ _ | refine bel_set ?_ (by first | (dsimp only; omega) | (simp; done) | (simp; omega)) _ | refine bel_trans ?_ (by assumption)))
  clear k1
  go_wp2_with fail
  refine bodyPost_ret (v := .tuple #[.agg #[.int .i64 0, .int .i64 0, .int .i64 0], .int .i64 20]) (by simp [results, Try.results60, go_sem, *]) rfl ⟨rfl, (by repeat (first | exact Below.refl _ _ | assumption | refine bel_drew ?_ | refine bel_drewN ?_ _ | refine bel_alloc ?_ _ | refine bel_set ?_ (by first | (dsimp only; omega) | (simp; done) | (simp; omega)) _ | refine bel_trans ?_ (by assumption)))⟩

theorem ref26_Do2 (c h r n : Int) (w : World) (bc : -9223372036854775808 ≤ c ∧ c ≤ 9223372036854775807) (bh : -9223372036854775808 ≤ h ∧ h ≤ 9223372036854775807) (br : -9223372036854775808 ≤ r ∧ r ≤ 9223372036854775807) (bn : -9223372036854775808 ≤ n ∧ n ≤ 9223372036854775807) :
    Calls Try.prog 60 #[.int .i64 2, .agg #[.int .i64 c, .int .i64 h, .int .i64 r], .int .i64 n] w fun e w' => e = .returned (.tuple #[.agg #[.int .i64 (PA.doo 2 c h r n).1.1, .int .i64 (PA.doo 2 c h r n).1.2.1, .int .i64 (PA.doo 2 c h r n).1.2.2], .int .i64 (PA.doo 2 c h r n).2]) ∧ Below w.heap.size w w' := by
  cases hr : PA.right c h r
  · rw [PA.doo_arg (Or.inl hr)]; exact ref26_Do2_nr c h r n w bc bh br bn hr
  · by_cases n1 : 1 ≤ n
    · by_cases hy : n ≤ r
      · rw [PA.doo2_yes hr n1 hy]; exact ref26_Do2_ok c h r n w bc bh br bn hr n1 hy
      · rw [PA.doo2_no hr n1 (by omega)]; exact ref26_Do2_no c h r n w bc bh br bn hr n1 (by omega)
    · rw [PA.doo_arg (Or.inr (by omega))]; exact ref26_Do2_n0 c h r n w bc bh br bn hr (by omega)

theorem account_Need (c h r : Int) (w : World) (bc : -9223372036854775808 ≤ c ∧ c ≤ 9223372036854775807) (bh : -9223372036854775808 ≤ h ∧ h ≤ 9223372036854775807) (br : -9223372036854775808 ≤ r ∧ r ≤ 9223372036854775807) :
    Calls Try.prog 72 #[.agg #[.int .i64 c, .int .i64 h, .int .i64 r]] w fun e w' => e = .returned (.int .i64 (PA.need c h r)) ∧ Below w.heap.size w w' := by
  cases hr : PA.right c h r
  · have hv : PA.need c h r = 0 := by simp [PA.need, hr]
    rw [hv]
    clear hv
    go_enter Try.func72, Try.ntmps72
    go_wp2_with fail
    refine (account_Right c h r _ bc bh br).mono ?_
    rintro e w1 ⟨rfl, k1⟩
    have qk1_0 := cell_after (a := ⟨w.heap.size, 0, none⟩) (v := .int .i64 c) k1 (by first | (dsimp only; omega) | (simp; done) | (simp; omega)) (by first | assumption | exact cell_alloc _ (by dsimp only; omega) (by assumption) | (simp [go_sem]; done))
    have fqk1_0 := frozen_after (a := ⟨w.heap.size, 0, none⟩) k1 (by first | (dsimp only; omega) | (simp; done) | (simp; omega)) (by first | assumption | exact frozen_alloc _ (by dsimp only; omega) (by assumption) | (simp [go_sem]; done))
    have qk1_1 := cell_after (a := ⟨w.heap.size, 1, none⟩) (v := .int .i64 h) k1 (by first | (dsimp only; omega) | (simp; done) | (simp; omega)) (by first | assumption | exact cell_alloc _ (by dsimp only; omega) (by assumption) | (simp [go_sem]; done))
    have fqk1_1 := frozen_after (a := ⟨w.heap.size, 1, none⟩) k1 (by first | (dsimp only; omega) | (simp; done) | (simp; omega)) (by first | assumption | exact frozen_alloc _ (by dsimp only; omega) (by assumption) | (simp [go_sem]; done))
    have qk1_2 := cell_after (a := ⟨w.heap.size, 2, none⟩) (v := .int .i64 r) k1 (by first | (dsimp only; omega) | (simp; done) | (simp; omega)) (by first | assumption | exact cell_alloc _ (by dsimp only; omega) (by assumption) | (simp [go_sem]; done))
    have fqk1_2 := frozen_after (a := ⟨w.heap.size, 2, none⟩) k1 (by first | (dsimp only; omega) | (simp; done) | (simp; omega)) (by first | assumption | exact frozen_alloc _ (by dsimp only; omega) (by assumption) | (simp [go_sem]; done))
    have s1 := k1.size
    simp only [World.size_alloc] at s1
    have K1 : Below w.heap.size w w1 := (by repeat (first | exact Below.refl _ _ | assumption | refine bel_drew ?_ | refine bel_drewN ?_ _ | refine bel_alloc ?_ _ | refine bel_set ?_ (by first | (dsimp only; omega) | (simp; done) | (simp; omega)) _ | refine bel_trans ?_ (by assumption)))
    clear k1
    go_wp2_with fail
    go_ret
    exact ⟨rfl, (by repeat (first | exact Below.refl _ _ | assumption | refine bel_drew ?_ | refine bel_drewN ?_ _ | refine bel_alloc ?_ _ | refine bel_set ?_ (by first | (dsimp only; omega) | (simp; done) | (simp; omega)) _ | refine bel_trans ?_ (by assumption)))⟩
  · have hv : PA.need c h r = c - h := by simp [PA.need, hr]
    have hi := (PA.right_iff c h r).1 hr
    have i1 := hi.1; have i2 := hi.2.1; have i3 := hi.2.2.1; have i4 := hi.2.2.2.1; have i5 := hi.2.2.2.2
    clear hi
    rw [hv]
    clear hv
    go_enter Try.func72, Try.ntmps72
    go_wp2_with fail
    refine (account_Right c h r _ bc bh br).mono ?_
    rintro e w1 ⟨rfl, k1⟩
    have qk1_0 := cell_after (a := ⟨w.heap.size, 0, none⟩) (v := .int .i64 c) k1 (by first | (dsimp only; omega) | (simp; done) | (simp; omega)) (by first | assumption | exact cell_alloc _ (by dsimp only; omega) (by assumption) | (simp [go_sem]; done))
    have fqk1_0 := frozen_after (a := ⟨w.heap.size, 0, none⟩) k1 (by first | (dsimp only; omega) | (simp; done) | (simp; omega)) (by first | assumption | exact frozen_alloc _ (by dsimp only; omega) (by assumption) | (simp [go_sem]; done))
    have qk1_1 := cell_after (a := ⟨w.heap.size, 1, none⟩) (v := .int .i64 h) k1 (by first | (dsimp only; omega) | (simp; done) | (simp; omega)) (by first | assumption | exact cell_alloc _ (by dsimp only; omega) (by assumption) | (simp [go_sem]; done))
    have fqk1_1 := frozen_after (a := ⟨w.heap.size, 1, none⟩) k1 (by first | (dsimp only; omega) | (simp; done) | (simp; omega)) (by first | assumption | exact frozen_alloc _ (by dsimp only; omega) (by assumption) | (simp [go_sem]; done))
    have qk1_2 := cell_after (a := ⟨w.heap.size, 2, none⟩) (v := .int .i64 r) k1 (by first | (dsimp only; omega) | (simp; done) | (simp; omega)) (by first | assumption | exact cell_alloc _ (by dsimp only; omega) (by assumption) | (simp [go_sem]; done))
    have fqk1_2 := frozen_after (a := ⟨w.heap.size, 2, none⟩) k1 (by first | (dsimp only; omega) | (simp; done) | (simp; omega)) (by first | assumption | exact frozen_alloc _ (by dsimp only; omega) (by assumption) | (simp [go_sem]; done))
    have s1 := k1.size
    simp only [World.size_alloc] at s1
    have K1 : Below w.heap.size w w1 := (by repeat (first | exact Below.refl _ _ | assumption | refine bel_drew ?_ | refine bel_drewN ?_ _ | refine bel_alloc ?_ _ | refine bel_set ?_ (by first | (dsimp only; omega) | (simp; done) | (simp; omega)) _ | refine bel_trans ?_ (by assumption)))
    clear k1
    go_wp2_with fail
    go_ret
    exact ⟨rfl, (by repeat (first | exact Below.refl _ _ | assumption | refine bel_drew ?_ | refine bel_drewN ?_ _ | refine bel_alloc ?_ _ | refine bel_set ?_ (by first | (dsimp only; omega) | (simp; done) | (simp; omega)) _ | refine bel_trans ?_ (by assumption)))⟩

theorem ref26_Need (c h r : Int) (w : World) (bc : -9223372036854775808 ≤ c ∧ c ≤ 9223372036854775807) (bh : -9223372036854775808 ≤ h ∧ h ≤ 9223372036854775807) (br : -9223372036854775808 ≤ r ∧ r ≤ 9223372036854775807) :
    Calls Try.prog 23 #[.agg #[.int .i64 c, .int .i64 h, .int .i64 r]] w fun e w' => e = .returned (.int .i64 (PA.need c h r)) ∧ Below w.heap.size w w' := by
  cases hr : PA.right c h r
  · have hv : PA.need c h r = 0 := by simp [PA.need, hr]
    rw [hv]
    clear hv
    go_enter Try.func23, Try.ntmps23
    go_wp2_with fail
    refine (ref26_Right c h r _ bc bh br).mono ?_
    rintro e w1 ⟨rfl, k1⟩
    have qk1_0 := cell_after (a := ⟨w.heap.size, 0, none⟩) (v := .int .i64 c) k1 (by first | (dsimp only; omega) | (simp; done) | (simp; omega)) (by first | assumption | exact cell_alloc _ (by dsimp only; omega) (by assumption) | (simp [go_sem]; done))
    have fqk1_0 := frozen_after (a := ⟨w.heap.size, 0, none⟩) k1 (by first | (dsimp only; omega) | (simp; done) | (simp; omega)) (by first | assumption | exact frozen_alloc _ (by dsimp only; omega) (by assumption) | (simp [go_sem]; done))
    have qk1_1 := cell_after (a := ⟨w.heap.size, 1, none⟩) (v := .int .i64 h) k1 (by first | (dsimp only; omega) | (simp; done) | (simp; omega)) (by first | assumption | exact cell_alloc _ (by dsimp only; omega) (by assumption) | (simp [go_sem]; done))
    have fqk1_1 := frozen_after (a := ⟨w.heap.size, 1, none⟩) k1 (by first | (dsimp only; omega) | (simp; done) | (simp; omega)) (by first | assumption | exact frozen_alloc _ (by dsimp only; omega) (by assumption) | (simp [go_sem]; done))
    have qk1_2 := cell_after (a := ⟨w.heap.size, 2, none⟩) (v := .int .i64 r) k1 (by first | (dsimp only; omega) | (simp; done) | (simp; omega)) (by first | assumption | exact cell_alloc _ (by dsimp only; omega) (by assumption) | (simp [go_sem]; done))
    have fqk1_2 := frozen_after (a := ⟨w.heap.size, 2, none⟩) k1 (by first | (dsimp only; omega) | (simp; done) | (simp; omega)) (by first | assumption | exact frozen_alloc _ (by dsimp only; omega) (by assumption) | (simp [go_sem]; done))
    have s1 := k1.size
    simp only [World.size_alloc] at s1
    have K1 : Below w.heap.size w w1 := (by repeat (first | exact Below.refl _ _ | assumption | refine bel_drew ?_ | refine bel_drewN ?_ _ | refine bel_alloc ?_ _ | refine bel_set ?_ (by first | (dsimp only; omega) | (simp; done) | (simp; omega)) _ | refine bel_trans ?_ (by assumption)))
    clear k1
    go_wp2_with fail
    go_ret
    exact ⟨rfl, (by repeat (first | exact Below.refl _ _ | assumption | refine bel_drew ?_ | refine bel_drewN ?_ _ | refine bel_alloc ?_ _ | refine bel_set ?_ (by first | (dsimp only; omega) | (simp; done) | (simp; omega)) _ | refine bel_trans ?_ (by assumption)))⟩
  · have hv : PA.need c h r = c - h := by simp [PA.need, hr]
    have hi := (PA.right_iff c h r).1 hr
    have i1 := hi.1; have i2 := hi.2.1; have i3 := hi.2.2.1; have i4 := hi.2.2.2.1; have i5 := hi.2.2.2.2
    clear hi
    rw [hv]
    clear hv
    go_enter Try.func23, Try.ntmps23
    go_wp2_with fail
    refine (ref26_Right c h r _ bc bh br).mono ?_
    rintro e w1 ⟨rfl, k1⟩
    have qk1_0 := cell_after (a := ⟨w.heap.size, 0, none⟩) (v := .int .i64 c) k1 (by first | (dsimp only; omega) | (simp; done) | (simp; omega)) (by first | assumption | exact cell_alloc _ (by dsimp only; omega) (by assumption) | (simp [go_sem]; done))
    have fqk1_0 := frozen_after (a := ⟨w.heap.size, 0, none⟩) k1 (by first | (dsimp only; omega) | (simp; done) | (simp; omega)) (by first | assumption | exact frozen_alloc _ (by dsimp only; omega) (by assumption) | (simp [go_sem]; done))
    have qk1_1 := cell_after (a := ⟨w.heap.size, 1, none⟩) (v := .int .i64 h) k1 (by first | (dsimp only; omega) | (simp; done) | (simp; omega)) (by first | assumption | exact cell_alloc _ (by dsimp only; omega) (by assumption) | (simp [go_sem]; done))
    have fqk1_1 := frozen_after (a := ⟨w.heap.size, 1, none⟩) k1 (by first | (dsimp only; omega) | (simp; done) | (simp; omega)) (by first | assumption | exact frozen_alloc _ (by dsimp only; omega) (by assumption) | (simp [go_sem]; done))
    have qk1_2 := cell_after (a := ⟨w.heap.size, 2, none⟩) (v := .int .i64 r) k1 (by first | (dsimp only; omega) | (simp; done) | (simp; omega)) (by first | assumption | exact cell_alloc _ (by dsimp only; omega) (by assumption) | (simp [go_sem]; done))
    have fqk1_2 := frozen_after (a := ⟨w.heap.size, 2, none⟩) k1 (by first | (dsimp only; omega) | (simp; done) | (simp; omega)) (by first | assumption | exact frozen_alloc _ (by dsimp only; omega) (by assumption) | (simp [go_sem]; done))
    have s1 := k1.size
    simp only [World.size_alloc] at s1
    have K1 : Below w.heap.size w w1 := (by repeat (first | exact Below.refl _ _ | assumption | refine bel_drew ?_ | refine bel_drewN ?_ _ | refine bel_alloc ?_ _ | refine bel_set ?_ (by first | (dsimp only; omega) | (simp; done) | (simp; omega)) _ | refine bel_trans ?_ (by assumption)))
    clear k1
    go_wp2_with fail
    go_ret
    exact ⟨rfl, (by repeat (first | exact Below.refl _ _ | assumption | refine bel_drew ?_ | refine bel_drewN ?_ _ | refine bel_alloc ?_ _ | refine bel_set ?_ (by first | (dsimp only; omega) | (simp; done) | (simp; omega)) _ | refine bel_trans ?_ (by assumption)))⟩

end Go.Proofs.Ythmjbfocpdiikaa
/-
  Plain: members and the order in which all may end.
-/
namespace Go.Proofs.Ythmjbfocpdiikaa
set_option linter.unusedVariables false
namespace PO
/-- id, claim, held, credits -/
abbrev Mem := Int × Int × Int × Int
def m0 : Mem := (0, 0, 0, 0)
def ok (m : Mem) : Bool := PA.right m.2.1 m.2.2.1 m.2.2.2
def need (m : Mem) : Int := PA.need m.2.1 m.2.2.1 m.2.2.2
def may (free : Int) (l : List Mem) : Bool := decide (0 ≤ free) && decide (free ≤ 1048576) && l.all ok
/-- Where p holds first; -1: nowhere. -/
def idx (p : Mem → Bool) (l : List Mem) : Int := match l.findIdx? p with | some i => (i : Int) | none => -1
theorem getD_at {l : List Mem} {k : Nat} (hk : k < l.length) : l.getD k m0 = l[k] := by simp [List.getD, hk]
theorem idx_at {p : Mem → Bool} {l : List Mem} {k : Nat} (hk : k < l.length) (hn : ∀ j, j < k → p (l.getD j m0) = false) (h : p (l.getD k m0) = true) : idx p l = k := by
  unfold idx
  have : l.findIdx? p = some k := by
    rw [List.findIdx?_eq_some_iff_getElem]
    refine ⟨hk, by rw [← getD_at hk]; exact h, fun j hj => ?_⟩
    have := hn j hj
    rw [getD_at (show j < l.length by omega)] at this
    simp [this]
  rw [this]
theorem idx_none {p : Mem → Bool} {l : List Mem} (hn : ∀ j, j < l.length → p (l.getD j m0) = false) : idx p l = -1 := by
  unfold idx
  rw [List.findIdx?_eq_none_iff.2]
  intro m hm
  obtain ⟨j, hj, rfl⟩ := List.mem_iff_getElem.1 hm
  have := hn j hj
  rwa [getD_at hj] at this
theorem idx_ge (p : Mem → Bool) (l : List Mem) : decide (0 ≤ idx p l) = l.any p := by
  unfold idx
  rcases h : l.findIdx? p with _ | i
  · rw [List.findIdx?_eq_none_iff] at h
    have : l.any p = false := by simpa using h
    rw [this]; rfl
  · rw [List.findIdx?_eq_some_iff_getElem] at h
    obtain ⟨hi, hp, _⟩ := h
    have : l.any p = true := List.any_eq_true.2 ⟨_, List.getElem_mem hi, hp⟩
    rw [this]; simp
theorem all_of {l : List Mem} (h : ∀ j, j < l.length → ok (l.getD j m0) = true) : l.all ok = true := by
  rw [List.all_eq_true]
  intro m hm
  obtain ⟨j, hj, rfl⟩ := List.mem_iff_getElem.1 hm
  have := h j hj
  rwa [getD_at hj] at this
theorem all_not {l : List Mem} {k : Nat} (hk : k < l.length) (h : ok (l.getD k m0) = false) : l.all ok = false := by
  rw [getD_at hk] at h
  cases hq : l.all ok
  · rfl
  · rw [List.all_eq_true] at hq
    rw [hq _ (List.getElem_mem hk)] at h
    cases h
theorem any_not (l : List Mem) : l.any (fun m => !ok m) = !(l.all ok) := by simp [List.any_eq_not_all_not]
/-- The first member, not done yet, that may end: from k on. -/
def next (free : Int) (l : List Mem) (done : List Nat) : Option Nat := (List.range l.length).find? (fun i => !done.contains i && decide (need (l.getD i m0) ≤ free))
def taken (l : List Mem) : Nat → Int → List Nat → List Nat
  | 0, _, done => done
  | k + 1, free, done => match next free l done with
    | none => done
    | some i => taken l k (free + (l.getD i m0).2.2.1) (done ++ [i])
def takenAll (free : Int) (l : List Mem) : List Nat := taken l l.length free []
def order (free : Int) (l : List Mem) : List Nat × Bool :=
  if may free l = false then ([], false) else if (takenAll free l).length < l.length then ([], false) else (takenAll free l, true)
def safe (free : Int) (l : List Mem) : Bool := (order free l).2
end PO
end Go.Proofs.Ythmjbfocpdiikaa
/-
  More small lemmas on worlds for the walks.
-/
namespace Go.Proofs.Ythmjbfocpdiikaa
open Go.RowKit

/-- The world at a region, under a name of its own. -/
theorem region_name {P : Program} {c : Code} {Q : Exit → Act → World → Prop} {a : Act} {w : World} (h : ∀ W, W = w → c.wp P Q a W) : c.wp P Q a w := h w rfl
end Go.Proofs.Ythmjbfocpdiikaa
/-
  Members in memory; slices.IndexFunc and ContainsFunc over them; order.may and its reference.
-/
namespace Go.Proofs.Ythmjbfocpdiikaa
open Go.RowKit
set_option linter.unusedVariables false
set_option linter.unusedSimpArgs false
attribute [local go_sem] drewN_alloc drewN_setCell

def Bd (x : Int) : Prop := -9223372036854775808 ≤ x ∧ x ≤ 9223372036854775807
def MemBd (m : PO.Mem) : Prop := Bd m.1 ∧ Bd m.2.1 ∧ Bd m.2.2.1 ∧ Bd m.2.2.2
/-- The cells of the member m at ⟨b, off⟩. -/
def MemCells (w : World) (b off : Nat) (m : PO.Mem) : Prop :=
  w.cell? ⟨b, off, none⟩ = some (.int .i64 m.1) ∧ w.cell? ⟨b, off + 1, none⟩ = some (.int .i64 m.2.1) ∧ w.cell? ⟨b, off + 2, none⟩ = some (.int .i64 m.2.2.1) ∧ w.cell? ⟨b, off + 3, none⟩ = some (.int .i64 m.2.2.2)
theorem MemCells.keep {B : Nat} {w w' : World} {b off : Nat} {m : PO.Mem} (h : MemCells w b off m) (k : Below B w w') (hb : b < B) : MemCells w' b off m :=
  ⟨(k.cell hb).trans h.1, (k.cell hb).trans h.2.1, (k.cell hb).trans h.2.2.1, (k.cell hb).trans h.2.2.2⟩
/-- The slice value of length n at A reads as the members l. -/
def MemAt (w : World) (A : Option Addr) (n : Nat) (l : List PO.Mem) : Prop :=
  l.length = n ∧ n ≤ 9223372036854775807 ∧ (∀ m ∈ l, MemBd m) ∧ (0 < n → ∃ b off, A = some ⟨b, off, none⟩ ∧ b < w.heap.size ∧ ∀ i, i < n → MemCells w b (off + i * 4) (l.getD i PO.m0))
theorem MemAt.keep {w w' : World} {A : Option Addr} {n : Nat} {l : List PO.Mem} (h : MemAt w A n l) (k : Below w.heap.size w w') : MemAt w' A n l :=
  ⟨h.1, h.2.1, h.2.2.1, fun hn => by
    obtain ⟨b, off, e, hb, hc⟩ := h.2.2.2 hn
    exact ⟨b, off, e, Nat.lt_of_lt_of_le hb k.size, fun i hi => (hc i hi).keep k hb⟩⟩
theorem MemAt.nil {w : World} {A : Option Addr} : MemAt w A 0 [] := ⟨rfl, by omega, fun _ h => by simp at h, fun h => absurd h (by omega)⟩
theorem MemAt.bd {w : World} {A : Option Addr} {n : Nat} {l : List PO.Mem} (h : MemAt w A n l) {k : Nat} (hk : k < n) : MemBd (l.getD k PO.m0) := by
  rw [PO.getD_at (by have := h.1; omega)]
  exact h.2.2.1 _ (List.getElem_mem _)

theorem order_may1 (m : PO.Mem) (w : World) (hm : MemBd m) :
    Calls Try.prog 90 #[.agg #[.int .i64 m.1, .int .i64 m.2.1, .int .i64 m.2.2.1, .int .i64 m.2.2.2]] w fun e w' => e = .returned (.bool (!PO.ok m)) ∧ Below w.heap.size w w' := by
  obtain ⟨i, c, h, r⟩ := m
  obtain ⟨_, b1, b2, b3⟩ := hm
  have K := fun W => account_Right c h r W b1 b2 b3
  show Calls Try.prog 90 #[.agg #[.int .i64 i, .int .i64 c, .int .i64 h, .int .i64 r]] w fun e w' => e = .returned (.bool (!PA.right c h r)) ∧ Below w.heap.size w w'
  generalize PA.right c h r = q at *
  replace K := Lib.hid K
  clear b1 b2 b3
  go_enter Try.func90, Try.ntmps90
  go_wp2_with fail
  refine (K.out _).mono ?_
  rintro e w1 ⟨rfl, h1⟩
  go_wp2_with fail
  exact bodyPost_ret (v := .bool (!q)) (by simp [results, Try.results90, go_sem]) rfl ⟨rfl, (by repeat (first | exact Below.refl _ _ | assumption | refine bel_drew ?_ | refine bel_drewN ?_ _ | refine bel_alloc ?_ _ | refine bel_set ?_ (by first | (dsimp only; omega) | (simp; done) | (simp; omega)) _ | refine bel_trans ?_ (by assumption)))⟩

def IdxRel (w : World) (p : PO.Mem → Bool) (l : List PO.Mem) (n : Nat) (i : Value) (wr : World) : Prop :=
  ∃ k : Nat, k ≤ n ∧ i = .int .i64 k ∧ (∀ j, j < k → p (l.getD j PO.m0) = false) ∧ Below w.heap.size w wr

set_option maxHeartbeats 4000000 in
theorem mem_IndexFunc {A : Option Addr} {n : Nat} {l : List PO.Mem} (c g : Nat) (lb : Array Value) (p : PO.Mem → Bool) {w : World} (h : MemAt w A n l)
    (eg : ∀ args w, (callFunc g args).run Try.prog w = .ok (.enter g args) w)
    (hp : ∀ m W, Below w.heap.size w W → MemBd m → Calls Try.prog g (#[.agg #[.int .i64 m.1, .int .i64 m.2.1, .int .i64 m.2.2.1, .int .i64 m.2.2.2]] ++ lb) W fun e w' => e = .returned (.bool (p m)) ∧ Below W.heap.size W w') :
    Calls Try.prog 75 #[.slice A n c, .func (.func g) #[] lb] w fun e w' => e = .returned (.int .i64 (PO.idx p l)) ∧ Below w.heap.size w w' := by
  obtain ⟨R, hR⟩ : ∃ R, PO.idx p l = R := ⟨_, rfl⟩
  rw [hR]
  have HR := Lib.hid hR
  have HX := Lib.hid h.1
  have HN := h.2.1
  have HB := Lib.hid (fun k (hk : k < n) => h.bd hk)
  have HC := Lib.hid h.2.2.2
  have HP := Lib.hid hp
  have hcf : ∀ m w, (callFunc g (#[m] ++ lb)).run Try.prog w = .ok (.enter g (#[m] ++ lb)) w := fun m w => eg _ w
  clear hR h hp
  go_enter Try.func75, Try.ntmps75
  go_wp2_with fail
  go_loopw [8] (fun i wr => IdxRel w p l n i wr) (fun i _ => n - (intOf i).toNat)
  case atStart => exact ⟨0, Nat.zero_le _, rfl, fun j hj => absurd hj (by omega), Below.refl _ _⟩
  case round =>
    obtain ⟨k, hk, rfl, hnot, hbel⟩ := hrel
    have HNOT := Lib.hid hnot
    clear hnot
    have j1 : (0 : Int) ≤ (k : Int) := by omega
    by_cases hlt : (k : Int) < n
    · obtain ⟨b, off, rfl, hb, hcs⟩ := HC.out (by omega)
      obtain ⟨x0, x1, x2, x3⟩ := (hcs k (by omega)).keep hbel hb
      have bd := HB.out k (by omega)
      obtain ⟨m, hm⟩ : ∃ m, l.getD k PO.m0 = m := ⟨_, rfl⟩
      rw [hm] at x0 x1 x2 x3 bd
      have KP := Lib.hid (HP.out m wr hbel bd)
      have HM := Lib.hid hm
      clear hm hcs bd
      rcases hq : p m with _ | _
      · rw [hq] at KP
        have HE : Hid (∀ j, j < k + 1 → p (l.getD j PO.m0) = false) := Lib.hid (fun j hj => by
          rcases Nat.lt_or_ge j k with h1 | h1
          · exact HNOT.out j h1
          · obtain rfl : j = k := by omega
            rw [HM.out]; exact hq)
        clear hq
        go_wp2_with fail
        refine KP.out.mono ?_
        rintro e w1 ⟨rfl, h1⟩
        go_wp2_with fail
        go_roundw
        case rel => exact ⟨k + 1, by omega, by go_num, HE.out, (by repeat (first | exact Below.refl _ _ | assumption | refine bel_drew ?_ | refine bel_drewN ?_ _ | refine bel_alloc ?_ _ | refine bel_set ?_ (by first | (dsimp only; omega) | (simp; done) | (simp; omega)) _ | refine bel_trans ?_ (by assumption)))⟩
        case measure => simp [intOf]; omega
      · rw [hq] at KP
        have HE : Hid ((k : Int) = R) := Lib.hid ((PO.idx_at (by rw [HX.out]; omega) HNOT.out (by rw [HM.out]; exact hq)).symm.trans HR.out)
        clear hq
        go_wp2_with fail
        refine KP.out.mono ?_
        rintro e w1 ⟨rfl, h1⟩
        go_wp2_with fail
        go_ret
        exact ⟨ret_int HE.out, (by repeat (first | exact Below.refl _ _ | assumption | refine bel_drew ?_ | refine bel_drewN ?_ _ | refine bel_alloc ?_ _ | refine bel_set ?_ (by first | (dsimp only; omega) | (simp; done) | (simp; omega)) _ | refine bel_trans ?_ (by assumption)))⟩
    · have HE : Hid ((-1 : Int) = R) := Lib.hid ((PO.idx_none (fun j hj => HNOT.out j (by rw [HX.out] at hj; omega))).symm.trans HR.out)
      go_wp2_with fail
      go_ret
      exact ⟨ret_int HE.out, (by repeat (first | exact Below.refl _ _ | assumption | refine bel_drew ?_ | refine bel_drewN ?_ _ | refine bel_alloc ?_ _ | refine bel_set ?_ (by first | (dsimp only; omega) | (simp; done) | (simp; omega)) _ | refine bel_trans ?_ (by assumption)))⟩

theorem mem_ContainsFunc {A : Option Addr} {n : Nat} {l : List PO.Mem} (c g : Nat) (lb : Array Value) (p : PO.Mem → Bool) {w : World} (h : MemAt w A n l)
    (eg : ∀ args w, (callFunc g args).run Try.prog w = .ok (.enter g args) w)
    (hp : ∀ m W, Below w.heap.size w W → MemBd m → Calls Try.prog g (#[.agg #[.int .i64 m.1, .int .i64 m.2.1, .int .i64 m.2.2.1, .int .i64 m.2.2.2]] ++ lb) W fun e w' => e = .returned (.bool (p m)) ∧ Below W.heap.size W w') :
    Calls Try.prog 92 #[.slice A n c, .func (.func g) #[] lb] w fun e w' => e = .returned (.bool (l.any p)) ∧ Below w.heap.size w w' := by
  have K := mem_IndexFunc c g lb p h eg hp
  rw [← PO.idx_ge]
  generalize PO.idx p l = x at *
  replace K := Lib.hid K
  clear h hp
  go_enter Try.func92, Try.ntmps92
  go_wp2_with fail
  refine K.out.mono ?_
  rintro e w1 ⟨rfl, h1⟩
  go_wp2_with fail
  exact bodyPost_ret (v := .bool (decide (0 ≤ x))) (by simp [results, Try.results92, go_sem]) rfl ⟨rfl, (by repeat (first | exact Below.refl _ _ | assumption | refine bel_drew ?_ | refine bel_drewN ?_ _ | refine bel_alloc ?_ _ | refine bel_set ?_ (by first | (dsimp only; omega) | (simp; done) | (simp; omega)) _ | refine bel_trans ?_ (by assumption)))⟩

theorem order_may {A : Option Addr} {n : Nat} {l : List PO.Mem} (c : Nat) (free : Int) {w : World} (h : MemAt w A n l) :
    Calls Try.prog 68 #[.int .i64 free, .slice A n c] w fun e w' => e = .returned (.bool (PO.may free l)) ∧ Below w.heap.size w w' := by
  have K : Hid (∀ W, Below w.heap.size w W → Calls Try.prog 92 #[.slice A n c, .func (.func 90) #[] #[]] W fun e w' => e = .returned (.bool (!(l.all PO.ok))) ∧ Below W.heap.size W w') := Lib.hid (fun W hW => by
    rw [← PO.any_not]
    exact mem_ContainsFunc c _ #[] _ (h.keep hW) (fun args w => by simp [go_sem]) (fun m W' _ bm => order_may1 m W' bm))
  have e : PO.may free l = (decide (0 ≤ free) && decide (free ≤ 1048576) && l.all PO.ok) := rfl
  generalize PO.may free l = R at *
  generalize l.all PO.ok = q at *
  clear h
  by_cases h0 : 0 ≤ free
  · by_cases h1 : free ≤ 1048576
    · rw [decide_eq_true h0, decide_eq_true h1, Bool.true_and, Bool.true_and] at e
      subst e
      have g0 : decide ((0 : Int) ≤ free) = true := decide_eq_true h0
      have g1 : decide (free ≤ 1048576) = true := decide_eq_true h1
      go_enter Try.func68, Try.ntmps68
      go_wp2_with fail
      refine (K.out _ (by exact (by repeat (first | exact Below.refl _ _ | assumption | refine bel_drew ?_ | refine bel_drewN ?_ _ | refine bel_alloc ?_ _ | refine bel_set ?_ (by first | (dsimp only; omega) | (simp; done) | (simp; omega)) _ | refine bel_trans ?_ (by assumption))))).mono ?_
      rintro e w1 ⟨rfl, h2⟩
      go_wp2_with fail
      exact bodyPost_ret (v := .bool R) (by simp [results, Try.results68, go_sem]) rfl ⟨rfl, (by repeat (first | exact Below.refl _ _ | assumption | refine bel_drew ?_ | refine bel_drewN ?_ _ | refine bel_alloc ?_ _ | refine bel_set ?_ (by first | (dsimp only; omega) | (simp; done) | (simp; omega)) _ | refine bel_trans ?_ (by assumption)))⟩
    · rw [decide_eq_false h1, Bool.and_false, Bool.false_and] at e
      subst e
      have g0 : decide ((0 : Int) ≤ free) = true := decide_eq_true h0
      have g1 : decide (free ≤ 1048576) = false := decide_eq_false h1
      go_enter Try.func68, Try.ntmps68
      go_wp2_with fail
      exact bodyPost_ret (v := .bool false) (by simp [results, Try.results68, go_sem]) rfl ⟨rfl, (by repeat (first | exact Below.refl _ _ | assumption | refine bel_drew ?_ | refine bel_drewN ?_ _ | refine bel_alloc ?_ _ | refine bel_set ?_ (by first | (dsimp only; omega) | (simp; done) | (simp; omega)) _ | refine bel_trans ?_ (by assumption)))⟩
  · rw [decide_eq_false h0, Bool.false_and, Bool.false_and] at e
    subst e
    have g0 : decide ((0 : Int) ≤ free) = false := decide_eq_false h0
    go_enter Try.func68, Try.ntmps68
    go_wp2_with fail
    exact bodyPost_ret (v := .bool false) (by simp [results, Try.results68, go_sem]) rfl ⟨rfl, (by repeat (first | exact Below.refl _ _ | assumption | refine bel_drew ?_ | refine bel_drewN ?_ _ | refine bel_alloc ?_ _ | refine bel_set ?_ (by first | (dsimp only; omega) | (simp; done) | (simp; omega)) _ | refine bel_trans ?_ (by assumption)))⟩

set_option maxHeartbeats 4000000 in
theorem ref28_May {A : Option Addr} {n : Nat} {l : List PO.Mem} (c : Nat) (free : Int) {w : World} (h : MemAt w A n l) :
    Calls Try.prog 51 #[.int .i64 free, .slice A n c] w fun e w' => e = .returned (.bool (PO.may free l)) ∧ Below w.heap.size w w' := by
  have e : PO.may free l = (decide (0 ≤ free) && decide (free ≤ 1048576) && l.all PO.ok) := rfl
  generalize PO.may free l = R at *
  have HR := Lib.hid e
  have HX := Lib.hid h.1
  have HN := h.2.1
  have HB := Lib.hid (fun k (hk : k < n) => h.bd hk)
  have HC := Lib.hid h.2.2.2
  clear e h
  go_enter Try.func51, Try.ntmps51
  go_wp2_with fail
  go_loopw [5] (fun i wr => IdxRel w (fun m => !PO.ok m) l n i wr) (fun i _ => n - (intOf i).toNat)
  case atStart => exact ⟨0, Nat.zero_le _, rfl, fun j hj => absurd hj (by omega), Below.refl _ _⟩
  case round =>
    obtain ⟨k, hk, rfl, hnot, hbel⟩ := hrel
    have HNOT := Lib.hid hnot
    clear hnot
    have j1 : (0 : Int) ≤ (k : Int) := by omega
    by_cases hlt : (k : Int) < n
    · obtain ⟨b, off, rfl, hb, hcs⟩ := HC.out (by omega)
      obtain ⟨x0, x1, x2, x3⟩ := (hcs k (by omega)).keep hbel hb
      have bd := HB.out k (by omega)
      obtain ⟨m, hm⟩ : ∃ m, l.getD k PO.m0 = m := ⟨_, rfl⟩
      rw [hm] at x0 x1 x2 x3 bd
      have KP := fun W => ref26_Right m.2.1 m.2.2.1 m.2.2.2 W bd.2.1 bd.2.2.1 bd.2.2.2
      have HM := Lib.hid hm
      clear hm hcs bd
      rcases hq : PO.ok m with _ | _
      · have HE : Hid (false = R) := Lib.hid (by rw [HR.out, PO.all_not (k := k) (by rw [HX.out]; omega) (by rw [HM.out]; exact hq)]; simp)
        rw [show PA.right m.2.1 m.2.2.1 m.2.2.2 = false from hq] at KP
        replace KP := Lib.hid KP
        clear hq
        go_wp2_with fail
        refine (KP.out _).mono ?_
        rintro e w1 ⟨rfl, h1⟩
        go_wp2_with fail
        go_ret
        exact ⟨ret_bool HE.out, (by repeat (first | exact Below.refl _ _ | assumption | refine bel_drew ?_ | refine bel_drewN ?_ _ | refine bel_alloc ?_ _ | refine bel_set ?_ (by first | (dsimp only; omega) | (simp; done) | (simp; omega)) _ | refine bel_trans ?_ (by assumption)))⟩
      · have HE : Hid (∀ j, j < k + 1 → (!PO.ok (l.getD j PO.m0)) = false) := Lib.hid (fun j hj => by
          rcases Nat.lt_or_ge j k with h1 | h1
          · exact HNOT.out j h1
          · obtain rfl : j = k := by omega
            rw [HM.out, hq]; rfl)
        rw [show PA.right m.2.1 m.2.2.1 m.2.2.2 = true from hq] at KP
        replace KP := Lib.hid KP
        clear hq
        go_wp2_with fail
        refine (KP.out _).mono ?_
        rintro e w1 ⟨rfl, h1⟩
        go_wp2_with fail
        go_roundw
        case rel => exact ⟨k + 1, by omega, by go_num, HE.out, (by repeat (first | exact Below.refl _ _ | assumption | refine bel_drew ?_ | refine bel_drewN ?_ _ | refine bel_alloc ?_ _ | refine bel_set ?_ (by first | (dsimp only; omega) | (simp; done) | (simp; omega)) _ | refine bel_trans ?_ (by assumption)))⟩
        case measure => simp [intOf]; omega
    · have ha : l.all PO.ok = true := PO.all_of (fun j hj => by have := HNOT.out j (by rw [HX.out] at hj; omega); simpa using this)
      have HE : Hid ((decide (0 ≤ free) && decide (free ≤ 1048576)) = R) := Lib.hid (by rw [HR.out, ha, Bool.and_true])
      clear ha
      by_cases h0 : 0 ≤ free
      · have g0 : decide ((0 : Int) ≤ free) = true := decide_eq_true h0
        rw [g0, Bool.true_and] at HE
        go_wp2_with fail
        go_ret
        exact ⟨ret_bool HE.out, (by repeat (first | exact Below.refl _ _ | assumption | refine bel_drew ?_ | refine bel_drewN ?_ _ | refine bel_alloc ?_ _ | refine bel_set ?_ (by first | (dsimp only; omega) | (simp; done) | (simp; omega)) _ | refine bel_trans ?_ (by assumption)))⟩
      · have g0 : decide ((0 : Int) ≤ free) = false := decide_eq_false h0
        rw [g0, Bool.false_and] at HE
        go_wp2_with fail
        go_ret
        exact ⟨ret_bool HE.out, (by repeat (first | exact Below.refl _ _ | assumption | refine bel_drew ?_ | refine bel_drewN ?_ _ | refine bel_alloc ?_ _ | refine bel_set ?_ (by first | (dsimp only; omega) | (simp; done) | (simp; omega)) _ | refine bel_trans ?_ (by assumption)))⟩
end Go.Proofs.Ythmjbfocpdiikaa
/-
  Plain: who is taken next, and all that are taken.
-/
namespace Go.Proofs.Ythmjbfocpdiikaa
set_option linter.unusedVariables false
namespace PO
def ints (d : List Nat) : List Int := d.map (fun i : Nat => (i : Int))
theorem in_ints {d : List Nat} {i : Nat} : (i : Int) ∈ ints d ↔ i ∈ d := by
  unfold ints
  rw [List.mem_map]
  constructor
  · rintro ⟨j, hj, e⟩
    obtain rfl : j = i := by omega
    exact hj
  · intro h
    exact ⟨i, h, rfl⟩
theorem ints_len (d : List Nat) : (ints d).length = d.length := by simp [ints]
theorem ints_snoc (d : List Nat) (i : Nat) : ints (d ++ [i]) = ints d ++ [(i : Int)] := by simp [ints]
theorem nodup_le : ∀ (n : Nat) (d : List Nat), d.Nodup → (∀ x ∈ d, x < n) → d.length ≤ n
  | 0, d, _, h => by
    cases d with
    | nil => simp
    | cons a t => exact absurd (h a (by simp)) (by omega)
  | n + 1, d, hd, h => by
    by_cases hm : n ∈ d
    · have h1 := nodup_le n (d.erase n) (hd.erase n) (fun x hx => by
        have := (hd.mem_erase_iff).1 hx
        have := h x this.2
        omega)
      rw [List.length_erase_of_mem hm] at h1
      omega
    · have := nodup_le n d hd (fun x hx => by
        have h1 := h x hx
        have h2 : x ≠ n := fun e => hm (e ▸ hx)
        omega)
      omega
theorem next_some {free : Int} {l : List Mem} {done : List Nat} {i : Nat} : next free l done = some i ↔ i < l.length ∧ i ∉ done ∧ need (l.getD i m0) ≤ free ∧ ∀ j, j < i → j ∈ done ∨ free < need (l.getD j m0) := by
  unfold next
  rw [List.find?_range_eq_some]
  simp only [List.mem_range, Bool.and_eq_true, Bool.not_eq_true', decide_eq_true_eq, Bool.not_and, Bool.not_not, Bool.or_eq_true, decide_eq_false_iff_not, List.contains_eq_mem, decide_eq_true_eq]
  constructor
  · rintro ⟨⟨h1, h2⟩, h3, h4⟩
    refine ⟨h3, by simpa using h1, h2, fun j hj => ?_⟩
    rcases h4 j hj with h | h
    · exact .inl (by simpa using h)
    · exact .inr (Int.not_le.1 (by simpa only [decide_eq_false_iff_not, Bool.not_eq_true', decide_eq_false_iff_not] using h))
  · rintro ⟨h3, h1, h2, h4⟩
    refine ⟨⟨by simpa using h1, h2⟩, h3, fun j hj => ?_⟩
    rcases h4 j hj with h | h
    · exact .inl (by simpa using h)
    · exact .inr (by simpa only [decide_eq_false_iff_not, Bool.not_eq_true'] using Int.not_le.2 h)
theorem next_none {free : Int} {l : List Mem} {done : List Nat} (h : ∀ j, j < l.length → j ∈ done ∨ free < need (l.getD j m0)) : next free l done = none := by
  cases hn : next free l done with
  | none => rfl
  | some i =>
    obtain ⟨h1, h2, h3, _⟩ := next_some.1 hn
    rcases h i h1 with h | h
    · exact absurd h h2
    · omega
theorem next_none' {free : Int} {l : List Mem} {done : List Nat} (h : next free l done = none) (j : Nat) (hj : j < l.length) : j ∈ done ∨ free < need (l.getD j m0) := by
  unfold next at h
  rw [List.find?_eq_none] at h
  have := h j (by simpa using hj)
  by_cases hm : j ∈ done
  · exact .inl hm
  · right
    simp only [List.contains_eq_mem, hm, decide_false, Bool.not_false, Bool.true_and, decide_eq_true_eq] at this
    omega
theorem taken_none {l : List Mem} {k : Nat} {free : Int} {done : List Nat} (h : next free l done = none) : taken l k free done = done := by
  cases k with
  | zero => rfl
  | succ k => unfold taken; rw [h]
theorem taken_some {l : List Mem} {k : Nat} {free : Int} {done : List Nat} {i : Nat} (h : next free l done = some i) : taken l (k + 1) free done = taken l k (free + (l.getD i m0).2.2.1) (done ++ [i]) := by
  rw [taken, h]
/-- What holds of those that are taken, and of what is free then. -/
def Good (l : List Mem) (k : Nat) (free : Int) (done : List Nat) : Prop :=
  done.Nodup ∧ (∀ x ∈ done, x < l.length) ∧ done.length + k = l.length ∧ 0 ≤ free ∧ free ≤ 1048576 * ((done.length : Int) + 1)
theorem may_iff {free : Int} {l : List Mem} : may free l = true ↔ 0 ≤ free ∧ free ≤ 1048576 ∧ l.all ok = true := by simp [may, and_assoc]
theorem ok_get {l : List Mem} (h : l.all ok = true) {i : Nat} (hi : i < l.length) : ok (l.getD i m0) = true := by
  rw [getD_at hi]
  exact List.all_eq_true.1 h _ (List.getElem_mem hi)
theorem ok_held {m : Mem} (h : ok m = true) : 0 ≤ m.2.2.1 ∧ m.2.2.1 ≤ 1048576 := by
  have := (PA.right_iff _ _ _).1 h
  omega
theorem good_start {free : Int} {l : List Mem} (h : may free l = true) : Good l l.length free [] := by
  obtain ⟨h0, h1, _⟩ := may_iff.1 h
  exact ⟨List.nodup_nil, fun _ h => by simp at h, by simp, h0, by simpa using h1⟩
/-- One more that is taken: there was room for it. -/
theorem good_next {l : List Mem} {k : Nat} {free : Int} {done : List Nat} {i : Nat} (ha : l.all ok = true) (h : Good l k free done) (hn : next free l done = some i) :
    ∃ k', k = k' + 1 ∧ Good l k' (free + (l.getD i m0).2.2.1) (done ++ [i]) := by
  obtain ⟨h1, h2, h3, h4, h5⟩ := h
  obtain ⟨n1, n2, n3, _⟩ := next_some.1 hn
  have hd : (done ++ [i]).Nodup := by
    rw [List.nodup_append]
    exact ⟨h1, by simp, fun a ha b hb => by simp at hb; rintro rfl; exact n2 (hb ▸ ha)⟩
  have hl : ∀ x ∈ done ++ [i], x < l.length := fun x hx => by
    rcases List.mem_append.1 hx with h | h
    · exact h2 x h
    · simp at h; omega
  have := nodup_le _ _ hd hl
  rw [List.length_append] at this
  have hb := ok_held (ok_get ha n1)
  simp only [List.length_cons, List.length_nil] at this
  refine ⟨k - 1, by omega, hd, hl, by simp; omega, by omega, ?_⟩
  rw [List.length_append]
  simp only [List.length_cons, List.length_nil]
  push_cast
  omega
end PO
end Go.Proofs.Ythmjbfocpdiikaa
/-
  Slices of ints that read as lists; the contract of SameInts.
-/
namespace Go.Proofs.Ythmjbfocpdiikaa
open Go.RowKit
set_option linter.unusedVariables false
attribute [local go_sem] drewN_alloc drewN_setCell

/-- The slice value of length n at A reads as xs. -/
def IntsAt (w : World) (A : Option Addr) (n : Nat) (xs : List Int) : Prop :=
  xs.length = n ∧ n ≤ 9223372036854775807 ∧ (0 < n → ∃ b off, A = some ⟨b, off, none⟩ ∧ b < w.heap.size ∧ ∀ i, i < n → w.cell? ⟨b, off + i, none⟩ = some (.int .i64 (xs.getD i 0)))

theorem IntsAt.keep {w w' : World} {A : Option Addr} {n : Nat} {xs : List Int} (h : IntsAt w A n xs) (k : Below w.heap.size w w') : IntsAt w' A n xs :=
  ⟨h.1, h.2.1, fun hn => by
    obtain ⟨b, off, e, hb, hc⟩ := h.2.2 hn
    exact ⟨b, off, e, Nat.lt_of_lt_of_le hb k.size, fun i hi => (k.cell hb).trans (hc i hi)⟩⟩
theorem IntsAt.nil {w : World} {A : Option Addr} : IntsAt w A 0 [] := ⟨rfl, by omega, fun h => absurd h (by omega)⟩

/-- What holds at the head of SameInts' loop. -/
def SameRel (w : World) (n : Nat) (xs ys : List Int) (i : Value) (wr : World) : Prop :=
  ∃ k : Nat, k ≤ n ∧ i = .int .i64 k ∧ (∀ j, j < k → xs.getD j 0 = ys.getD j 0) ∧ Below w.heap.size w wr

theorem list_eq_getD {n : Nat} {xs ys : List Int} (hx : xs.length = n) (hy : ys.length = n) (h : ∀ j, j < n → xs.getD j 0 = ys.getD j 0) : xs = ys := by
  apply List.ext_getElem (by omega)
  intro i h1 h2
  have := h i (by omega)
  simpa [List.getD, h1, h2] using this

theorem base_SameInts_len (A B : Option Addr) (n m c d : Nat) (w : World) (hne : ((n : Int) != (m : Int)) = true) :
    Calls Try.prog 27 #[.slice A n c, .slice B m d] w fun e w' => e = .returned (.bool false) ∧ Below w.heap.size w w' := by
  go_enter Try.func27, Try.ntmps27
  go_wp2
  go_ret
  exact ⟨rfl, (by repeat (first | exact Below.refl _ _ | assumption | refine bel_drew ?_ | refine bel_drewN ?_ _ | refine bel_alloc ?_ _ | refine bel_set ?_ (by first | (dsimp only; omega) | (simp; done) | (simp; omega)) _ | refine bel_trans ?_ (by assumption)))⟩

theorem base_SameInts_nil (A B : Option Addr) (c d : Nat) (w : World) :
    Calls Try.prog 27 #[.slice A 0 c, .slice B 0 d] w fun e w' => e = .returned (.bool true) ∧ Below w.heap.size w w' := by
  go_enter Try.func27, Try.ntmps27
  go_wp2
  refine wp_loop_rounds 1 ?_
  rw [rounds_succ]
  go_wp2
  go_ret
  exact ⟨rfl, (by repeat (first | exact Below.refl _ _ | assumption | refine bel_drew ?_ | refine bel_drewN ?_ _ | refine bel_alloc ?_ _ | refine bel_set ?_ (by first | (dsimp only; omega) | (simp; done) | (simp; omega)) _ | refine bel_trans ?_ (by assumption)))⟩

set_option maxHeartbeats 1000000 in
theorem base_SameInts_some (b off b' off' n c d : Nat) (xs ys : List Int) (w : World) (hn : n ≤ 9223372036854775807) (hx : xs.length = n) (hy : ys.length = n) (hb : b < w.heap.size) (hb' : b' < w.heap.size)
    (hc : ∀ i, i < n → w.cell? ⟨b, off + i, none⟩ = some (.int .i64 (xs.getD i 0))) (hc' : ∀ i, i < n → w.cell? ⟨b', off' + i, none⟩ = some (.int .i64 (ys.getD i 0))) :
    Calls Try.prog 27 #[.slice (some ⟨b, off, none⟩) n c, .slice (some ⟨b', off', none⟩) n d] w fun e w' => e = .returned (.bool (decide (xs = ys))) ∧ Below w.heap.size w w' := by
  have HC := Lib.hid hc
  have HC' := Lib.hid hc'
  have HX := Lib.hid hx
  have HY := Lib.hid hy
  clear hc hc' hx hy
  go_enter Try.func27, Try.ntmps27
  go_wp2
  go_loopw [5] (fun i wr => SameRel w n xs ys i wr) (fun i _ => n - (intOf i).toNat)
  case atStart => exact ⟨0, Nat.zero_le _, rfl, fun j hj => absurd hj (by omega), Below.refl _ _⟩
  case round =>
    obtain ⟨k, hk, rfl, hpre, hbel⟩ := hrel
    have HP := Lib.hid hpre
    clear hpre
    by_cases hlt : (k : Int) < n
    · have x0 := (hbel.cell (p := ⟨b, off + k, none⟩) hb).trans (HC.out k (by omega))
      have y0 := (hbel.cell (p := ⟨b', off' + k, none⟩) hb').trans (HC'.out k (by omega))
      obtain ⟨x, hx⟩ : ∃ x, xs.getD k 0 = x := ⟨_, rfl⟩
      obtain ⟨y, hy⟩ : ∃ y, ys.getD k 0 = y := ⟨_, rfl⟩
      rw [hx] at x0
      rw [hy] at y0
      have HX1 := Lib.hid hx
      have HY1 := Lib.hid hy
      clear hx hy
      have j1 : (0 : Int) ≤ (k : Int) := by omega
      by_cases hxy : x = y
      · have hbq : (x != y) = false := by simpa using hxy
        have HXY := Lib.hid hxy
        clear hxy
        go_wp2_with fail
        go_quiet (fail)
        go_wp2_with fail
        go_roundw
        case rel =>
          refine ⟨k + 1, by omega, by go_num, fun j hj => ?_, (by repeat (first | exact Below.refl _ _ | assumption | refine bel_drew ?_ | refine bel_drewN ?_ _ | refine bel_alloc ?_ _ | refine bel_set ?_ (by first | (dsimp only; omega) | (simp; done) | (simp; omega)) _ | refine bel_trans ?_ (by assumption)))⟩
          by_cases hjk : j = k
          · rw [hjk, HX1.out, HY1.out, HXY.out]
          · exact HP.out j (by omega)
        case measure => simp [intOf]; omega
      · have hbq : (x != y) = true := by simpa using hxy
        have hne : xs ≠ ys := by
          intro h
          apply hxy
          rw [← HX1.out, ← HY1.out, h]
        have HNE := Lib.hid hne
        clear hxy hne
        go_wp2_with fail
        go_quiet (fail)
        go_wp2_with fail
        go_ret
        exact ⟨ret_bool (by simp [HNE.out]), (by repeat (first | exact Below.refl _ _ | assumption | refine bel_drew ?_ | refine bel_drewN ?_ _ | refine bel_alloc ?_ _ | refine bel_set ?_ (by first | (dsimp only; omega) | (simp; done) | (simp; omega)) _ | refine bel_trans ?_ (by assumption)))⟩
    · have hkn : k = n := by omega
      have heq : xs = ys := list_eq_getD HX.out HY.out (fun j hj => HP.out j (by omega))
      have HE := Lib.hid heq
      clear hkn heq
      go_wp2_with fail
      go_ret
      exact ⟨ret_bool (by simp [HE.out]), (by repeat (first | exact Below.refl _ _ | assumption | refine bel_drew ?_ | refine bel_drewN ?_ _ | refine bel_alloc ?_ _ | refine bel_set ?_ (by first | (dsimp only; omega) | (simp; done) | (simp; omega)) _ | refine bel_trans ?_ (by assumption)))⟩

theorem base_SameInts {A B : Option Addr} {n m : Nat} {xs ys : List Int} (c d : Nat) {w : World} (hx : IntsAt w A n xs) (hy : IntsAt w B m ys) :
    Calls Try.prog 27 #[.slice A n c, .slice B m d] w fun e w' => e = .returned (.bool (decide (xs = ys))) ∧ Below w.heap.size w w' := by
  by_cases hnm : n = m
  · subst hnm
    by_cases h0 : n = 0
    · subst h0
      have e1 : xs = [] := List.eq_nil_of_length_eq_zero hx.1
      have e2 : ys = [] := List.eq_nil_of_length_eq_zero hy.1
      subst e1 e2
      exact base_SameInts_nil A B c d w
    · obtain ⟨b, off, rfl, hb, hc⟩ := hx.2.2 (by omega)
      obtain ⟨b', off', rfl, hb', hc'⟩ := hy.2.2 (by omega)
      exact base_SameInts_some b off b' off' n c d xs ys w hx.2.1 hx.1 hy.1 hb hb' hc hc'
  · have hne : xs ≠ ys := by rintro rfl; exact hnm (hx.1.symm.trans hy.1)
    rw [show decide (xs = ys) = false by simpa using hne]
    exact base_SameInts_len A B n m c d w (by simp; omega)
end Go.Proofs.Ythmjbfocpdiikaa
/-
  append onto a row of the call's own, of elements of any size, from a slice that may be nil.
-/
namespace Go.Proofs.Ythmjbfocpdiikaa
open Go.RowKit
set_option linter.unusedVariables false

/-- The cells of m elements of sz cells each, from A on (none: no cell), hold news. -/
def SrcS (sz : Nat) (w : World) (A : Option Addr) (m : Nat) (news : List Value) : Prop :=
  news.length = m * sz ∧ (A = none → m = 0) ∧ ∀ ad, A = some ad → ∀ j u, news[j]? = some u → w.cell? (ad.add j) = some u
theorem addr_addS (b off j : Nat) : (⟨b, off, none⟩ : Addr).add j = ⟨b, off + j, none⟩ := by unfold Addr.add; split <;> simp_all

section
variable {P : Program} (w : World)
theorem run_append_S (sz : Nat) (h0 : 0 < sz) (base : Nat) (t ty e : TypeId) (i : TypeInfo) (z : Value) (bytes : Nat) (ht : P.underlying t = some (.slice e)) (hi : P.info? e = some i) (hz : i.zero = some z)
    (hsize : i.size = sz) (hby : i.bytes = bytes) (hzs : z.cells.size = sz) (v : Value) (n : Nat) (xs : List Value) (hown : w.ownsRow base e sz v n xs)
    (A : Option Addr) (m c : Nat) (news : List Value) (hs : SrcS sz w A m news) (h1 : ∀ u ∈ news, u.oneCell' = true)
    (h63 : n + m ≤ maxLen) (hbytes : (n + m) * bytes ≤ 140737488355328) (hbase : base ≤ w.heap.size) :
    ∃ v' w', (Builtin.append_ #[t, t] ty #[v, .slice A m c]).run P w = .ok v' w' ∧ w'.ownsRow base e sz v' (n + m) (xs ++ news) ∧ w.grownBy w' v.ownBlock ∧ (v'.ownBlock = v.ownBlock ∨ v'.ownBlock = some w.heap.size) := by
  obtain ⟨s1, s2, s3⟩ := hs
  rcases A with _ | ad
  · obtain rfl := s2 rfl
    rw [Nat.zero_mul] at s1
    obtain rfl := List.eq_nil_of_length_eq_zero s1
    refine ⟨v, w, ?_, by simpa using hown, World.grownBy.refl w _, .inl rfl⟩
    rcases hown.2 with ⟨rfl, rfl⟩ | ⟨g, cap, cur, rfl, _, _, hnc, _⟩
    · simp [Builtin.append_, run_underlying ht, sizeOf, typeInfo, hi, Builtin.lenOf, Builtin.firstCells]
    · simp [Builtin.append_, run_underlying ht, sizeOf, typeInfo, hi, Builtin.lenOf, Builtin.firstCells, hnc, storeCells]
  · obtain ⟨v', w', hr, h2, h3, _, h5⟩ := run_append_own_at (P := P) w base t ty e i z sz bytes ht hi hz hsize hby hzs h0 v n xs hown ad m c news s1 (s3 ad rfl) h1 h63 hbytes hbase
    exact ⟨v', w', hr, h2, h3, h5⟩

theorem wp_append_S {o : Oper} {a : Act} {K : Act → World → Prop} {Q : Exit → Act → World → Prop} (sz : Nat) (h0 : 0 < sz) (s x : Operand) (t : TypeId)
    (ho : o.op = .call { callee := .builtin .append, args := #[s, x], argTypes := #[t, t] })
    (base : Nat) (e : TypeId) (i : TypeInfo) (z : Value) (bytes : Nat) (ht : P.underlying t = some (.slice e)) (hi : P.info? e = some i) (hz : i.zero = some z)
    (hsize : i.size = sz) (hby : i.bytes = bytes) (hzs : z.cells.size = sz) (v : Value) (n : Nat) (xs : List Value) (hsv : a.eval s = v) (hown : w.ownsRow base e sz v n xs)
    (A : Option Addr) (m c : Nat) (news : List Value) (hx : a.eval x = .slice A m c) (hs : SrcS sz w A m news) (h1 : ∀ u ∈ news, u.oneCell' = true)
    (h63 : n + m ≤ maxLen) (hbytes : (n + m) * bytes ≤ 140737488355328) (hbase : base ≤ w.heap.size)
    (h : ∀ v' w', w'.ownsRow base e sz v' (n + m) (xs ++ news) → w.grownBy w' v.ownBlock → (v'.ownBlock = v.ownBlock ∨ v'.ownBlock = some w.heap.size) → K (a.put o.dst v') w') : o.wp P a w K Q := by
  obtain ⟨v', w', hr, h2, h3, h4⟩ := run_append_S (P := P) w sz h0 base t o.type e i z bytes ht hi hz hsize hby hzs v n xs hown A m c news hs h1 h63 hbytes hbase
  unfold Oper.wp execOp
  simp only [ho, resolve, invoke, builtin, Sem.run_bind, Sem.run_pure, Result.andThen_ok, List.map_toArray, List.map_cons, List.map_nil, hsv, hx, hr]
  exact h v' w' h2 h3 h4

theorem wpList_append_S {ops : Array Oper} {rest : List Oper} {o : Oper} {a : Act} {Q : Exit → Act → World → Prop} (hgd : o.guard = none) (sz : Nat) (h0 : 0 < sz) (s x : Operand) (t : TypeId)
    (ho : o.op = .call { callee := .builtin .append, args := #[s, x], argTypes := #[t, t] })
    (base : Nat) (e : TypeId) (i : TypeInfo) (z : Value) (bytes : Nat) (ht : P.underlying t = some (.slice e)) (hi : P.info? e = some i) (hz : i.zero = some z)
    (hsize : i.size = sz) (hby : i.bytes = bytes) (hzs : z.cells.size = sz) (v : Value) (n : Nat) (xs : List Value) (hsv : a.eval s = v) (hown : w.ownsRow base e sz v n xs)
    (A : Option Addr) (m c : Nat) (news : List Value) (hx : a.eval x = .slice A m c) (hs : SrcS sz w A m news) (h1 : ∀ u ∈ news, u.oneCell' = true)
    (h63 : n + m ≤ maxLen) (hbytes : (n + m) * bytes ≤ 140737488355328) (hbase : base ≤ w.heap.size)
    (h : ∀ v' w', w'.ownsRow base e sz v' (n + m) (xs ++ news) → w.grownBy w' v.ownBlock → (v'.ownBlock = v.ownBlock ∨ v'.ownBlock = some w.heap.size) → wpList P ops Q rest (a.put o.dst v') w') : wpList P ops Q (o :: rest) a w :=
  wpList_plain hgd fun _ hK => wp_append_S w sz h0 s x t ho base e i z bytes ht hi hz hsize hby hzs v n xs hsv hown A m c news hx hs h1 h63 hbytes hbase fun v' w' h2 h3 h4 => hK _ _ (h v' w' h2 h3 h4)
end
/-- What a slice literal without elements owns. -/
theorem own_emptyS (sz : Nat) (w : World) (t : TypeId) : (w.alloc (.cells #[] t)).ownsRow w.heap.size t sz (.slice (some ⟨w.heap.size, 0, none⟩) 0 0) 0 [] :=
  ⟨by simp, .inr ⟨w.heap.size, 0, #[], rfl, Nat.le_refl _, by show (w.heap.push _)[w.heap.size]? = _; simp, Nat.le_refl _, by unfold maxLen; omega, by simp, by simp⟩⟩
end Go.Proofs.Ythmjbfocpdiikaa
