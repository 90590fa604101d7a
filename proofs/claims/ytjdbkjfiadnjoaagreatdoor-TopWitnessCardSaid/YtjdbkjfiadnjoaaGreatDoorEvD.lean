/- The proved evaluator: part D (SeF SeG SeH SeI SeJ SeK SeM SeO). -/
import Derived.Test.YtjdbkjfiadnjoaaGreatDoorEvC
import Derived.RangeFuncLeaves
import Derived.Test.YtjdbkjfiadnjoaaGreatDoorEvA
import Derived.Lib.SlKeysI
import Derived.Maps.Own
import Derived.Below
import Derived.WalkKit
import Derived.Lib.Hide
import Derived.Lib.SmallJoins
import Derived.Laws.Rows
import Derived.Deep.OwnRows
set_option linter.unusedVariables false
set_option linter.unusedSimpArgs false
section
/- Calls. -/
namespace Go.Ev
open Go
set_option linter.unusedVariables false
set_option linter.unusedSimpArgs false
section
variable {P : Program} {C : Ctx} {ρ : Ren}

/-- A region's table is right; those of all regions of code. -/
def drawsOk (C : Ctx) (f : Nat) : Code → Bool
  | .region id ops true => (match C.dr f id with
    | none => true
    | some l => drawAll C (ntOf C f) ops (ancs ops.toList) l)
  | .seq a b => drawsOk C f a && drawsOk C f b
  | .cond _ a b => drawsOk C f a && drawsOk C f b
  | .block _ b => drawsOk C f b
  | .loop b => drawsOk C f b
  | .rangeFunc _ _ a b => drawsOk C f a && drawsOk C f b
  | .scope b => drawsOk C f b
  | _ => true
theorem drawsOk_part {f : Nat} {B c : Code} (h : drawsOk C f B = true) (s : PartC B c) : drawsOk C f c = true := by
  induction s with
  | self => exact h
  | seqL _ ih => simp only [drawsOk, Bool.and_eq_true] at ih; exact ih.1
  | seqR _ ih => simp only [drawsOk, Bool.and_eq_true] at ih; exact ih.2
  | condT _ ih => simp only [drawsOk, Bool.and_eq_true] at ih; exact ih.1
  | condE _ ih => simp only [drawsOk, Bool.and_eq_true] at ih; exact ih.2
  | block _ ih => simpa only [drawsOk] using ih
  | loop _ ih => simpa only [drawsOk] using ih
  | rangeA _ ih => simp only [drawsOk, Bool.and_eq_true] at ih; exact ih.1
  | rangeB _ ih => simp only [drawsOk, Bool.and_eq_true] at ih; exact ih.2
  | scope _ ih => simpa only [drawsOk] using ih
  | skip => rfl
  | join _ _ ih1 ih2 => simp only [drawsOk, ih1, ih2, Bool.and_self]

/-- The evaluator's tables are the program's: functions, too. -/
structure ProgOk (P : Program) (C : Ctx) : Prop extends CtxOk P C where
  fn : ∀ f fi, C.fn f = some fi → ∃ fn, P.funcs[f]? = some fn ∧ fi.nt = fn.ntmps ∧ fi.res = fn.results.toList ∧ fi.body = fn.body ∧ (fn.name == "runtime.NumGoroutine") = false
  nt : ∀ f fn, P.funcs[f]? = some fn → ntOf C f = fn.ntmps
  draw : ∀ f fn b, P.funcs[f]? = some fn → fn.body = some b → drawsOk C f b = true
  ext : ∀ f fi e, C.fn f = some fi → fi.ext = some e → ExtSound P C e f
  met : ∀ t ms, C.met t = some ms → ∃ inf, P.info? t = some inf ∧ inf.methods.toList = ms
  mixed : P.follows .mixedOrders = true

/-- What is known of calls within. -/
structure RtOk (P : Program) (C : Ctx) (rt : Rt) : Prop where
  call : ∀ (f : Nat) (args : List V) (h : Heap) (k : V → Heap → Bool) (ρ : Ren) (xs : Array Value) (w : World), rt.call f args h k = true → RelL ρ args xs.toList → HeapRel P C ρ h w →
    CallsIn (fen none) 0 P f xs w (fun e w' => ∃ v, e = .returned v ∧ After P C ρ h w k v w')
  calld : ∀ (f : Nat) (args : List V) (h : Heap) (k : Heap → Bool) (ρ : Ren) (xs : Array Value) (w : World) (u : FrameMode), rt.calld f args h k = true → RelL ρ args xs.toList → HeapRel P C ρ h w →
    CallsDIn (fen none) 0 P f xs u w (fun e u' w' => u' = u ∧ ∃ v h' ρ', e = .returned v ∧ k h' = true ∧ HeapRel P C ρ' h' w' ∧ Le ρ h w ρ' h' w')
  code : ∀ (fn : Nat) (c : Code), CodeIn P fn c → ∀ (rd : Nat) (r : Option Nat) (ds : List D) (e : Env) (h : Heap) (kn : List D → Env → Heap → Bool) (kx : X → List D → Env → Heap → Bool) (ρ : Ren) (a : Act) (w : World) (Q : Exit → Act → World → Prop),
    RdOk ρ rd r → rt.code fn c rd ds e h kn kx = true → ActOk ρ (ntOf C fn) ds e a → HeapRel P C ρ h w → Kont P C ρ h w (ntOf C fn) kn (Q .normal) → KontX P C ρ h w (ntOf C fn) kx Q → c.wpIn (fen r) 0 P Q a w

theorem run_enter {f : FuncId} {fn : Func} {c : Code} (hf : P.funcs[f]? = some fn) (hname : (fn.name == "runtime.NumGoroutine") = false) (hb : fn.body = some c) (args : Array Value) (w : World) :
    (callFunc f args).run P w = .ok (.enter f args) w := by
  have h1 : fn.name ≠ "runtime.NumGoroutine" := by simpa using hname
  simp [callFunc, hf, h1, hb]

theorem call_rel (hP : ProgOk P C) {rt : Rt} (hT : RtOk P C rt) {f : Nat} {args : List V} {h : Heap} {k : V → Heap → Bool} {xs : Array Value} {w : World} (hx : (callK C f).run rt args h k = true) (hr : RelL ρ args xs.toList) (hH : HeapRel P C ρ h w) :
    CallRes P f xs w (After P C ρ h w k) := by
  unfold callK at hx
  split at hx
  · rename_i fi hfi
    split at hx
    · rename_i e he
      exact hP.ext f fi e hfi he args h k ρ xs w hx hr hH
    · split at hx
      · rename_i c hc
        obtain ⟨fn, h1, h2, h3, h4, h5⟩ := hP.fn f fi hfi
        exact .inr ⟨run_enter h1 h5 (by rw [← h4]; exact hc) xs w, hT.call f args h k ρ xs w hx hr hH⟩
      · exact absurd hx (by simp)
  · exact absurd hx (by simp)

theorem callsIn_fen {r : Option Nat} {f : FuncId} {xs : Array Value} {w : World} {R : Ending → World → Prop} (h : CallsIn (fen none) 0 P f xs w R) : CallsIn (fen r) 0 P f xs w R := h

theorem upon_call {r : Option Nat} {o : Oper} {a : Act} {w w' : World} {f : FuncId} {xs : Array Value} {R : Value → World → Prop} (hd : ∀ c, o.op ≠ .defer c) (hw : w' = w) (he : (execOp a.eval o).run P w = (callFunc f xs).run P w) (hc : CallRes P f xs w R) : Upon P r o a w R := by
  rcases hc with ⟨v, w1, h1, h2⟩ | ⟨h1, h2⟩
  · exact Upon.value hd (he.trans h1) h2
  · exact Upon.enter hd (he.trans h1) (callsIn_fen h2)

theorem args_arr {e : Env} {a : Act} {vs : List V} {args : Array Operand} (h : RelL ρ vs (args.toList.map a.eval)) : RelL ρ vs (args.map a.eval).toList := by simpa using h

theorem ok_callF (hP : ProgOk P C) {o : Oper} {f : Nat} {args : Array Operand} {ts : Array TypeId} (ho : o.op = .call { callee := .value (.func f), args := args, argTypes := ts }) : OpOk (RtOk P C) P C (callOpK C { callee := .value (.func f), args := args, argTypes := ts }) o := by
  have hd : ∀ c, o.op ≠ .defer c := by rw [ho]; simp
  intro rt r e h k ρ a w hT hx hE hH
  have hx : (argsK args.toList).run e (fun args => (callK C f).run rt args h k) = true := hx
  obtain ⟨vs, hx, hvs, _⟩ := args_rel hE hx
  refine upon_call hd rfl (f := f) (xs := args.map a.eval) ?_ (call_rel hP hT hx (by simpa using hvs) hH)
  have : a.eval (.func f) = .func (.func f) #[] #[] := rfl
  simp [execOp, ho, resolve, this, Deferred.ofValue, invoke]

theorem method_run (hP : ProgOk P C) {name : String} {t : Nat} {v : V} {x : Value} {q : Nat → V → Bool} {n : Nat} {w : World} (hv : RelV ρ v x) (h : (methK C name t).run v q = true) : ∃ f, q f v = true ∧ (method (n + 1) t x name).run P w = .ok (f, x) w := by
  unfold methK at h
  split at h
  · rename_i ms ti hms hti
    obtain ⟨inf, i1, i2⟩ := hP.met t ms hms
    obtain ⟨_, _, _, u1⟩ := ty_some hP.toCtxOk hti
    split at h
    · rename_i m hm
      have hfind : inf.methods.find? (·.name == name) = some m := by
        rw [← Array.find?_toList, i2]; exact hm
      split at h
      · rename_i f pr hpath hfunc
        have hpe : m.path.isEmpty = true := by
          have : m.path = #[] := Array.ext' (by simpa using hpath)
          rw [this]; rfl
        have hrun : ∀ y : Value, (receiverAt t (.val x) pr (if m.path.isEmpty then some ((name.splitOn ".").getLastD name) else none)).run P w = .ok y w → (method (n + 1) t x name).run P w = .ok (f, y) w := by
          intro y hy
          unfold method
          simp only [Sem.run_bind, run_info i1, Result.andThen_ok, hfind, hpath, follow, Sem.run_pure, hfunc, hy]
        cases hdd : ti.desc <;> rw [hdd] at h u1 <;> cases pr <;> first
          | (exact absurd h Bool.false_ne_true)
          | (refine ⟨f, h, hrun x ?_⟩
             simp [receiverAt, run_und u1, Place.get])
      · exact absurd h (by simp)
    · exact absurd h (by simp)
  · exact absurd h (by simp)

theorem ok_invoke (hP : ProgOk P C) {o : Oper} {x : Operand} {name : String} {args : Array Operand} {ts : Array TypeId} (ho : o.op = .call { callee := .invoke x name, args := args, argTypes := ts }) : OpOk (RtOk P C) P C (callOpK C { callee := .invoke x name, args := args, argTypes := ts }) o := by
  have hd : ∀ c, o.op ≠ .defer c := by rw [ho]; simp
  intro rt r e h k ρ a w hT hx hE hH
  have hx : (argsK args.toList).run e (fun args => V.onIface ((opnd x).get e) (fun t v => (methK C name t).run v (fun f v => (callK C f).run rt (v :: args) h k)) false) = true := hx
  obtain ⟨vs, hx, hvs, _⟩ := args_rel hE hx
  rcases V.onIface_true.1 hx with ⟨t, v, hv, hx2⟩ | ⟨_, hx2⟩
  · have hr := opnd_rel hE x
    rw [hv] at hr
    obtain ⟨y, hy, hvy⟩ : ∃ y, a.eval x = .iface t y ∧ RelV ρ v y := by
      generalize a.eval x = vx at *
      cases hr with | iface _ _ y h => exact ⟨y, rfl, h⟩
    obtain ⟨f, hx3, hm⟩ := method_run hP (n := P.types.size + Made.depth - 1) (w := w) hvy hx2
    have hdep : P.types.size + Made.depth - 1 + 1 = P.types.size + Made.depth := by
      have : 0 < Made.depth := by decide
      omega
    rw [hdep] at hm
    refine upon_call hd rfl (f := f) (xs := #[y] ++ args.map a.eval) ?_ (call_rel hP hT hx3 ?_ hH)
    · have hext : (#[Value.iface t y] ++ args.map a.eval).extract 1 (#[Value.iface t y] ++ args.map a.eval).size = args.map a.eval := by
        apply Array.ext'
        simp
        exact List.take_of_length_le (by simp)
      simp only [execOp, ho, resolve, hy, invoke, callMethod, Sem.run_bind, Sem.run_pure, Result.andThen_ok]
      rw [show (#[Value.iface t y] ++ args.map a.eval)[0]? = some (Value.iface t y) by rw [Array.getElem?_append_left (by simp)]; rfl]
      dsimp only
      rw [hext]
      simp only [Sem.run_bind, hm, Result.andThen_ok, program, Sem.run]
    · have := RelL.cons hvy (show RelL ρ vs (args.map a.eval).toList by simpa using hvs)
      simpa using this
  · exact absurd hx2 (by simp)
end
end Go.Ev
end

section
/- Rounds of a loop over a function; calls of values. -/
namespace Go.Ev
open Go
set_option linter.unusedVariables false
set_option linter.unusedSimpArgs false
section
variable {P : Program} {C : Ctx} {ρ : Ren}

theorem run_getLoop {w : World} {b : Nat} {l : Loop} (h : w.heap[b]? = some (.loop l)) : (Instr.getLoop b).run P w = .ok l w := by
  simp [Instr.getLoop, getObj, Sem.run, h]
theorem run_setLoop {w : World} {b : Nat} {l l' : Loop} (h : w.heap[b]? = some (.loop l)) : (setObj b (.loop l')).run P w = .ok () { w with heap := w.heap.setIfInBounds b (.loop l') } := by
  simp [setObj, Sem.run, h]

theorem loop_obj {h : Heap} {w : World} {i : Nat} {B : Blk} {st : LoopState} {pd : Option X} {f : Nat} {e : Env} {ps : List Nat} {a b : Code} {d : Nat} (hH : HeapRel P C ρ h w) (hB : ρ i = some B) (hg : hget i h = .loop st pd f e ps a b d) :
    ∃ l : Loop, w.heap[B.b]? = some (.loop l) ∧ l.state = st ∧ l.pending = pd.map jumpOf ∧ EnvRel ρ e l.tmps ∧ l.params.toList = ps ∧ l.assign = a ∧ l.body = b ∧ (∃ D, ρ d = some D ∧ l.defers = D.b) ∧ CodeIn P f a ∧ CodeIn P f b ∧ (∃ fn, P.funcs[f]? = some fn ∧ fn.ntmps = l.tmps.size) ∧ ∀ p ∈ ps, p < l.tmps.size := by
  have := hH.obj i B hB
  rw [hg] at this
  exact this

theorem put_loop {h : Heap} {w : World} {i : Nat} {B : Blk} {st st' : LoopState} {pd pd' : Option X} {f : Nat} {e : Env} {ps : List Nat} {a b : Code} {d : Nat} {k : Heap → Bool} {l : Loop} (hH : HeapRel P C ρ h w) (hB : ρ i = some B) (hg : hget i h = .loop st pd f e ps a b d)
    (hl : w.heap[B.b]? = some (.loop l)) (hx : hput i (.loop st' pd' f e ps a b d) h k = true) :
    ∃ h', k h' = true ∧ HeapRel P C ρ h' { w with heap := w.heap.setIfInBounds B.b (.loop { l with state := st', pending := pd'.map jumpOf }) } ∧ Le ρ h w ρ h' { w with heap := w.heap.setIfInBounds B.b (.loop { l with state := st', pending := pd'.map jumpOf }) } := by
  obtain ⟨h', hk, hn, hg'⟩ := hput_spec hx
  have hb := (hH.dom i B hB).2
  obtain ⟨l0, h1, _, _, h4, h5, h6, h7, h8, h9⟩ := loop_obj hH hB hg
  rw [hl] at h1
  cases h1
  obtain ⟨a, b⟩ := hH.put (w' := { w with heap := w.heap.setIfInBounds B.b (.loop { l with state := st', pending := pd'.map jumpOf }) }) (o := .loop st' pd' f e ps a b d) hB (by rw [hg]; rfl) (by simp)
    ⟨{ l with state := st', pending := pd'.map jumpOf }, by simp [hb], rfl, rfl, h4, h5, h6, h7, h8, h9⟩ (fun b hne => by simp [Array.getElem?_setIfInBounds, hne.symm]) hn hg' (by simp)
  exact ⟨h', hk, a, b⟩

theorem bind_rel {k : Env → Bool} : ∀ {ps : List Nat} {vs : List V} {xs : List Value} {e : Env} {tmps : Array Value}, RelL ρ vs xs → EnvRel ρ e tmps → (∀ p ∈ ps, p < tmps.size) → bindE ps vs e k = true →
    ps.length = xs.length ∧ ∃ e', k e' = true ∧ EnvRel ρ e' ((ps.zip xs).foldl (fun tmps (p : Nat × Value) => tmps.setIfInBounds p.1 p.2) tmps) ∧ ((ps.zip xs).foldl (fun tmps (p : Nat × Value) => tmps.setIfInBounds p.1 p.2) tmps).size = tmps.size
  | [], vs, xs, e, tmps, hr, hE, hp, h => by
    cases vs with
    | nil =>
      rw [hr.unnil]
      exact ⟨rfl, e, h, hE, rfl⟩
    | cons v vs => exact absurd h (by show ¬ (false = true); simp)
  | p :: ps, vs, xs, e, tmps, hr, hE, hp, h => by
    cases vs with
    | nil => exact absurd h (by show ¬ (false = true); simp)
    | cons v vs =>
      obtain ⟨x, xs, rfl, h1, h2⟩ := hr.uncons
      have h : (ep p).put v e (fun e => bindE ps vs e k) = true := h
      obtain ⟨e1, h3, h4⟩ := ep_put h
      have hps : p < tmps.size := hp p (by simp)
      have hE1 : EnvRel ρ e1 (tmps.setIfInBounds p x) := by
        intro t
        rw [h4]
        by_cases ht : t = p
        · subst ht
          rw [if_pos rfl, Array.getD_eq_getD_getElem?, Array.getElem?_setIfInBounds_self_of_lt hps]
          exact h1
        · rw [if_neg ht, Array.getD_eq_getD_getElem?, Array.getElem?_setIfInBounds_ne (fun h => ht h.symm), ← Array.getD_eq_getD_getElem?]
          exact hE t
      obtain ⟨h5, e', h6, h7, h8⟩ := bind_rel h2 hE1 (fun q hq => by simpa using hp q (by simp [hq])) h3
      exact ⟨by simp [h5], e', h6, h7, by rw [show (((p :: ps).zip (x :: xs)).foldl (fun tmps (p : Nat × Value) => tmps.setIfInBounds p.1 p.2) tmps) = ((ps.zip xs).foldl (fun tmps (p : Nat × Value) => tmps.setIfInBounds p.1 p.2) (tmps.setIfInBounds p x)) from rfl, h8]; simp⟩

theorem Exit.then_kont {ρ : Ren} {h : Heap} {w : World} {nt : Nat} {k : List D → Env → Heap → Bool} {N : Act → World → Prop} {Q : Exit → Act → World → Prop} (hk : Kont P C ρ h w nt k N) : Kont P C ρ h w nt k (Exit.then N Q .normal) := hk

/-- One round. -/
theorem round_rel (hP : ProgOk P C) {rt : Rt} (hT : RtOk P C rt) {l : Nat} {B : Blk} {args : List V} {h : Heap} {k : V → Heap → Bool} {xs : Array Value} {w : World} {r : Option Nat} (hB : ρ l = some B) (hx : roundK rt l args h k = true) (hr : RelL ρ args xs.toList) (hH : HeapRel P C ρ h w) :
    ∃ f ts as bd, (Instr.yield B.b xs).run P w = .ok (.round B.b f ts as bd) w ∧ RoundIn (fen r) 0 P B.b f ts as bd w (fun e w' => ∃ v, e = .returned v ∧ After P C ρ h w k v w') := by
  unfold roundK at hx
  obtain ⟨st, pd, f, e, ps, a, b, d, hg, hx⟩ := O.onLoop_true.1 hx
  obtain ⟨lo, h1, h2, h3, h4, h5, h6, h7, ⟨D, hD, h8⟩, h9, h10, ⟨fn, h11, h12⟩, h13⟩ := loop_obj hH hB hg
  obtain ⟨hlen, e', hx, hE', hsz⟩ := bind_rel hr h4 h13 hx
  rw [frc_eq] at hx
  have hy : (Instr.yield B.b xs).run P w = .ok (.round B.b lo.fn ((ps.zip xs.toList).foldl (fun tmps (p : Nat × Value) => tmps.setIfInBounds p.1 p.2) lo.tmps) lo.assign lo.body) w := by
    have hs : xs.size = lo.params.size := by rw [← h5] at hlen; simpa using hlen.symm
    unfold Instr.yield
    simp only [Sem.run_bind, run_getLoop h1, Result.andThen_ok, hs]
    have e : (lo.params.zip xs).foldl (fun tmps (t, a) => tmps.setIfInBounds t a) lo.tmps = (ps.zip xs.toList).foldl (fun tmps (p : Nat × Value) => tmps.setIfInBounds p.1 p.2) lo.tmps := by
      rw [← Array.foldl_toList, Array.toList_zip, h5]
    rw [if_neg (by simp), e]
    rfl
  refine ⟨_, _, _, _, hy, ?_⟩
  rw [h6, h7]
  refine roundIn_of_wpIn trivial ?_
  have hA : ActOk ρ (ntOf C f) [] e' { tmps := (ps.zip xs.toList).foldl (fun tmps (p : Nat × Value) => tmps.setIfInBounds p.1 p.2) lo.tmps, defers := [] } := by
    refine ⟨hE', ?_, .nil⟩
    rw [hP.nt f fn h11, h12]
    exact hsz
  have hRd : RdOk ρ (l + 1) (some B.b) := .inr ⟨l, B, rfl, hB, rfl⟩
  refine hT.code f a h9 (l + 1) (some B.b) [] e' h _ _ ρ _ w _ hRd hx hA hH ?_ ?_
  · intro ds1 e1 h1' ρ1 a1 w1 hx1 hA1 hH1 hL1
    show ∃ w₂, (Instr.beginRound B.b).run P w1 = .ok () w₂ ∧ b.wpIn ((fen r).inRound B.b) 0 P (roundPost P B.b _) a1 w₂
    obtain ⟨st1, pd1, f1, e1', ps1, a1', b1, d1, hg1, hx1⟩ := O.onLoop_true.1 hx1
    obtain ⟨hst, hx1⟩ := LS.ifReady_true.1 hx1
    have hB1 := hL1.ren _ _ hB
    obtain ⟨lo1, g1, g2, g3, _⟩ := loop_obj hH1 hB1 hg1
    obtain ⟨h2', hx2, hH2, hL2⟩ := put_loop hH1 hB1 hg1 g1 hx1
    have hw2 : ({ lo1 with state := .busy, pending := pd1.map jumpOf } : Loop) = { lo1 with state := .busy } := by rw [← g3]
    rw [hw2] at hH2 hL2
    have hbegin : (Instr.beginRound B.b).run P w1 = .ok () { w1 with heap := w1.heap.setIfInBounds B.b (.loop { lo1 with state := .busy }) } := by
      unfold Instr.beginRound
      simp only [Sem.run_bind, run_getLoop g1, Result.andThen_ok, run_setLoop g1, g2, hst, Sem.run_pure]
    refine ⟨_, hbegin, ?_⟩
    have hRd2 : RdOk ρ1 (l + 1) (some B.b) := hRd.mono hL1.ren
    refine hT.code f b h10 (l + 1) (some B.b) ds1 e1 h2' _ _ ρ1 a1 _ _ hRd2 hx2 hA1 hH2 ?_ ?_
    · intro ds3 e3 h3' ρ3 a3 w3 hx3 hA3 hH3 hL3
      obtain ⟨st3, pd3, f3, e3', ps3, a3', b3, d3, hg3, hx3⟩ := O.onLoop_true.1 hx3
      have hB3 := hL3.ren _ _ hB1
      obtain ⟨lo3, q1, q2, q3, _⟩ := loop_obj hH3 hB3 hg3
      obtain ⟨h4', hx4, hH4, hL4⟩ := put_loop hH3 hB3 hg3 q1 hx3
      refine ⟨.bool true, _, ?_, .bool true, rfl, .bool true, h4', ρ3, hx4, .bool true, hH4, ((hL1.trans hL2).trans hL3).trans hL4⟩
      unfold Instr.endRound
      simp only [Sem.run_bind, run_getLoop q1, Result.andThen_ok, Option.isNone_none, if_true, run_setLoop q1, Sem.run_pure]
      rfl
    · intro x ds3 e3 h3' ρ3 a3 w3 hx3 hA3 hH3 hL3
      obtain ⟨st3, pd3, f3, e3', ps3, a3', b3, d3, hg3, hx3⟩ := O.onLoop_true.1 hx3
      have hB3 := hL3.ren _ _ hB1
      obtain ⟨lo3, q1, q2, q3, _⟩ := loop_obj hH3 hB3 hg3
      obtain ⟨h4', hx4, hH4, hL4⟩ := put_loop hH3 hB3 hg3 q1 hx3
      have hend : (Instr.endRound B.b (some (jumpOf x))).run P w3 = .ok (.bool false) { w3 with heap := w3.heap.setIfInBounds B.b (.loop { lo3 with state := .done, pending := some (jumpOf x) }) } := by
        unfold Instr.endRound
        simp only [Sem.run_bind, run_getLoop q1, Result.andThen_ok, Option.isNone_some, run_setLoop q1, Sem.run_pure]
        rfl
      have hR : ∃ v, Ending.returned (.bool false) = .returned v ∧ After P C ρ h w k v { w3 with heap := w3.heap.setIfInBounds B.b (.loop { lo3 with state := .done, pending := some (jumpOf x) }) } :=
        ⟨.bool false, rfl, .bool false, h4', ρ3, hx4, .bool false, hH4, ((hL1.trans hL2).trans hL3).trans hL4⟩
      cases x with
      | exit id => exact ⟨_, _, hend, hR⟩
      | goto t => exact ⟨_, _, hend, hR⟩
      | ret => exact ⟨_, _, hend, hR⟩
  · intro x ds1 e1 h1' ρ1 a1 w1 hx1
    exact absurd hx1 (by simp)

theorem ok_callV (hP : ProgOk P C) {o : Oper} {f : Operand} {args : Array Operand} {ts : Array TypeId} (hf : ∀ g, f ≠ .func g) (ho : o.op = .call { callee := .value f, args := args, argTypes := ts }) : OpOk (RtOk P C) P C (callOpK C { callee := .value f, args := args, argTypes := ts }) o := by
  have hd : ∀ c, o.op ≠ .defer c := by rw [ho]; simp
  intro rt r e h k ρ a w hT hx hE hH
  have hx : (argsK args.toList).run e (fun args => V.live ((opnd f).get e) (fun g => callV C rt g args h k)) = true := by
    unfold callOpK at hx
    dsimp only at hx
    split at hx
    · rename_i g hg; cases hg; exact absurd rfl (hf _)
    · rename_i hg; cases hg; exact hx
    · rename_i hg; cases hg
    · rename_i hg; cases hg
  obtain ⟨vs, hx, hvs, _⟩ := args_rel hE hx
  obtain ⟨_, hx⟩ := V.live_true.1 hx
  have hvs' : RelL ρ vs (args.map a.eval).toList := by simpa using hvs
  have hr := opnd_rel hE f
  unfold callV at hx
  rcases V.onFn_true.1 hx with ⟨g, first, cap, hg, hx1⟩ | ⟨l, hg, hx1⟩
  · rw [hg] at hr
    obtain ⟨fa, ca, hv, h1, h2⟩ := hr.fn_inv
    rw [frcApp_eq, frcApp_eq] at hx1
    refine upon_call hd rfl (f := g) (xs := (fa ++ args.map a.eval) ++ ca) ?_ (call_rel hP hT hx1 ?_ hH)
    · simp [execOp, ho, resolve, hv, Deferred.ofValue, invoke]
    · have := h1.app (hvs'.app h2)
      simpa using this
  · rw [hg] at hr
    obtain ⟨B, hB, hv⟩ : ∃ B, ρ l = some B ∧ a.eval f = .func (.yield B.b) #[] #[] := by
      generalize a.eval f = vf at *
      cases hr with | yield _ B hB => exact ⟨B, hB, rfl⟩
    obtain ⟨f', ts', as, bd, hy, hR⟩ := round_rel hP hT (r := r) hB hx1 hvs' hH
    refine Upon.round hd ?_ hR
    simp only [execOp, ho, resolve, hv, Deferred.ofValue, Sem.run_bind, Sem.run_pure, Result.andThen_ok, invoke]
    have e : #[] ++ args.map a.eval = args.map a.eval := by simp
    rw [e]; exact hy
end
end Go.Ev
end

section
/- Every operation. -/
namespace Go.Ev
open Go
set_option linter.unusedVariables false
set_option linter.unusedSimpArgs false
section
variable {P : Program} {C : Ctx} {ρ : Ren}

theorem arr1 {α : Type} {l : Array α} {x : α} (h : l.toList = [x]) : l = #[x] := Array.ext' (by simpa using h)
theorem arr2 {α : Type} {l : Array α} {x y : α} (h : l.toList = [x, y]) : l = #[x, y] := Array.ext' (by simpa using h)
theorem head0 {α : Type} {l : Array α} {x : α} {t : List α} (h : l.toList = x :: t) : l[0]? = some x := by rw [← Array.getElem?_toList, h]; rfl

theorem ok_builtin (hP : ProgOk P C) {o : Oper} {b : Builtin} {args : Array Operand} {ts : Array TypeId} (ho : o.op = .call { callee := .builtin b, args := args, argTypes := ts }) : OpOk (RtOk P C) P C (builtinK C b ts.toList args.toList) o := by
  have hC := hP.toCtxOk
  unfold builtinK
  split
  · rename_i s x ha; rw [arr2 ha] at ho; exact ok_append hC ho
  · rename_i x ha
    rw [arr1 ha] at ho
    split
    · rename_i t _ ht; exact ok_len hC (head0 ht) ho
    · exact .bad
  · rename_i x ha
    rw [arr1 ha] at ho
    split
    · rename_i t _ ht; exact ok_cap hC (head0 ht) ho
    · exact .bad
  · rename_i d s ha; rw [arr2 ha] at ho; exact ok_copy hC ho
  · rename_i m k ha
    rw [arr2 ha] at ho
    split
    · rename_i t _ ht; exact ok_delete hC (head0 ht) ho
    · exact .bad
  · rename_i x ha; rw [arr1 ha] at ho; exact ok_clear (t := 0) hC ho
  · rename_i x y ha; rw [arr2 ha] at ho; exact ok_mm (mx := true) ho
  · rename_i x y ha; rw [arr2 ha] at ho; exact ok_mm (mx := false) ho
  · rename_i x ha; rw [arr1 ha] at ho; exact ok_sliceData ho
  · rename_i p n ha; rw [arr2 ha] at ho; exact ok_ustr hC ho
  · exact .bad

theorem ok_call (hP : ProgOk P C) {o : Oper} {c : Call} (ho : o.op = .call c) : OpOk (RtOk P C) P C (callOpK C c) o := by
  obtain ⟨callee, args, ts⟩ := c
  cases callee with
  | value f =>
    cases f with
    | func g => exact ok_callF hP ho
    | tmp t => exact ok_callV hP (fun g h => by cases h) ho
    | const v => exact ok_callV hP (fun g h => by cases h) ho
    | global v => exact ok_callV hP (fun g h => by cases h) ho
  | invoke x name => exact ok_invoke hP ho
  | builtin b => exact ok_builtin hP ho

theorem ok_op (hP : ProgOk P C) : ∀ o : Oper, (∀ c, o.op ≠ .defer c) → OpOk (RtOk P C) P C (opK C o.op) o := by
  intro o hd
  have hC := hP.toCtxOk
  cases ho : o.op
  case move x => exact .pure hd (ok_move (.inl ho))
  case assign x => exact .pure hd (ok_move (.inr ho))
  case pick c a b => exact .pure hd (ok_pick ho)
  case alloc t => exact ok_alloc hC ho
  case box t x => exact ok_box hC ho
  case build t ps => exact ok_build hC ho
  case buildSlice t n ps => exact ok_buildSlice hC ho
  case load t a => exact ok_load hC ho
  case store t a x => exact ok_store hC ho
  case nilCheck x => exact ok_nilCheck ho
  case binOp op t x y u => exact ok_bin hC ho
  case unOp op t x => exact ok_unOp ho
  case convert s d x => exact ok_conv hC ho
  case makeInterface t x => exact ok_makeInterface hC ho
  case makeFunc fn first cap =>
    cases fn with
    | func f => exact ok_makeFunc ho
    | _ => exact .bad
  case makeMap t r =>
    cases r with
    | none => exact ok_makeMap ho
    | some x => exact ok_makeMapN hC ho
  case makeSlice t l c => exact ok_makeSlice hC ho
  case slice t x lo hi mx => exact ok_slice hC ho
  case fieldAddr s x f => exact ok_fieldAddr hC ho
  case field t x f => exact ok_field hC ho
  case indexAddr t x i => exact ok_indexAddr hC ho
  case index t x i => exact ok_index hC ho
  case lookup t x i ok => exact ok_lookup hC ho
  case mapUpdate t m k x => exact ok_update hC (.inl ho)
  case insert t m k x => exact ok_update hC (.inr ho)
  case mapEntry t m k => exact ok_entry hC ho
  case entryStore t m s x => exact ok_entryStore ho
  case range t x => exact ok_rangeStr hC ho
  case next it s => exact ok_next ho
  case typeAssert x xt t ok => exact ok_typeAssert hC ho
  case extract t i => exact ok_extract ho
  case call c => exact ok_call hP ho
  case defer c => exact absurd ho (hd c)
  all_goals exact .bad
end
end Go.Ev
end

section
/- Code: labels, loops over functions; code by its parts. -/
namespace Go.Ev
open Go
set_option linter.unusedVariables false
set_option linter.unusedSimpArgs false

section scope
variable {F : Fence} {n : Nat} {P : Program} {Q : Exit → Act → World → Prop}
variable {b : Frame} {a : Act} {k : List Item} {cs : List Frame} {w : World}
theorem stepR_scope {c : Code} : step P (lone (b.atR a (.code (.scope c) :: k)) cs w) = .next (lone (b.atR a (.code c :: .inScope c :: k)) cs w) :=
  step_lone_go (by simp [stepG, stepG.exec, Frame.atR])
theorem stepR_inScope {c : Code} : step P (lone (b.atR a (.inScope c :: k)) cs w) = .next (lone (b.atR a k) cs w) :=
  step_lone_go (by simp [stepG, stepG.exec, Frame.atR])

/-- Code carried out within a scope. -/
def InScope (F : Fence) (n : Nat) (P : Program) (Q : Exit → Act → World → Prop) (body c : Code) (a : Act) (w : World) : Prop :=
  ∀ (b : Frame) (k : List Item) (cs : List Frame), b.roundOf = F.round → F.fn b.fn → F.room (cs.length + 1 + n) →
    ∃ e a' w', Q e a' w' ∧ ArrivesIn (Machine.fenced P F) P (lone (b.atR a (.code c :: .inScope body :: k)) cs w) b k cs e a' w'

/-- What is asked where code within a scope is left. -/
def Exit.scopd (F : Fence) (n : Nat) (P : Program) (Q : Exit → Act → World → Prop) (body : Code) : Exit → Act → World → Prop
  | .goto l, a, w => match findLabel body l with
    | some c => InScope F n P Q body c a w
    | none => Q (.goto l) a w
  | e, a, w => Q e a w

theorem inScope_of_wpIn {body c : Code} (h : c.wpIn F n P (Exit.scopd F n P Q body) a w) : InScope F n P Q body c a w := by
  intro b k cs hro hb hr
  obtain ⟨e, a₁, w₁, hq, harr⟩ := h b (.inScope body :: k) cs hro hb hr
  cases e with
  | normal => exact ⟨.normal, a₁, w₁, hq, StepsIn.trans harr (.one (fenced_calm hb hr rfl) stepR_inScope)⟩
  | exit id =>
    have hx : exitTo id (.inScope body :: k) = exitTo id k := by simp [exitTo]
    exact ⟨.exit id, a₁, w₁, hq, fun k' hk => harr.1 k' (by rw [hx]; exact hk), fun hr' hk => harr.2 hr' (by rw [hx]; exact hk)⟩
  | goto l =>
    have hq : (match findLabel body l with
      | some c => InScope F n P Q body c a₁ w₁
      | none => Q (.goto l) a₁ w₁) := hq
    cases hl : findLabel body l with
    | some c' =>
      rw [hl] at hq
      obtain ⟨e2, a2, w2, hq2, harr2⟩ := hq b k cs hro hb hr
      exact ⟨e2, a2, w2, hq2, .of_steps (harr.1 _ (by simp [gotoIn, hl])) harr2⟩
    | none =>
      rw [hl] at hq
      have hx : gotoIn l (.inScope body :: k) = gotoIn l k := by simp [gotoIn, hl]
      exact ⟨.goto l, a₁, w₁, hq, fun k' hk => harr.1 k' (by rw [hx]; exact hk), fun hr' hk => harr.2 hr' (by rw [hx]; exact hk)⟩
  | ret => exact ⟨_, a₁, w₁, hq, harr⟩
  | panic ch => exact ⟨_, a₁, w₁, hq, harr⟩
  | outgrown => exact ⟨_, a₁, w₁, hq, harr⟩

theorem wpIn_scope {body : Code} (h : body.wpIn F n P (Exit.scopd F n P Q body) a w) : (Code.scope body).wpIn F n P Q a w := by
  intro b k cs hro hb hr
  obtain ⟨e, a1, w1, hq, harr⟩ := inScope_of_wpIn h b k cs hro hb hr
  exact ⟨e, a1, w1, hq, .of_steps (.one (fenced_calm hb hr rfl) stepR_scope) harr⟩
end scope

section
variable {P : Program} {C : Ctx} {ρ : Ren}

theorem findLabel_in {f : Nat} : ∀ {b : Code} {l : Nat} {c : Code}, CodeIn P f b → findLabel b l = some c → CodeIn P f c
  | .seq x y, l, c, hb, h => by
    simp only [findLabel] at h
    cases hx : findLabel x l with
    | some r =>
      rw [hx] at h
      simp only [Option.some.injEq] at h
      subst h
      exact (findLabel_in (hb.map .seqL) hx).join (hb.map .seqR)
    | none =>
      rw [hx] at h
      exact findLabel_in (hb.map .seqR) h
  | .label m, l, c, hb, h => by
    simp only [findLabel] at h
    split at h
    · cases h; exact hb.map fun _ => .skip
    · cases h
  | .skip, l, c, hb, h => by simp [findLabel] at h
  | .region _ _ _, l, c, hb, h => by simp [findLabel] at h
  | .cond _ _ _, l, c, hb, h => by simp [findLabel] at h
  | .block _ _, l, c, hb, h => by simp [findLabel] at h
  | .loop _, l, c, hb, h => by simp [findLabel] at h
  | .rangeFunc _ _ _ _, l, c, hb, h => by simp [findLabel] at h
  | .exit _, l, c, hb, h => by simp [findLabel] at h
  | .scope _, l, c, hb, h => by simp [findLabel] at h
  | .goto _, l, c, hb, h => by simp [findLabel] at h
  | .ret, l, c, hb, h => by simp [findLabel] at h
  | .refuse _, l, c, hb, h => by simp [findLabel] at h

theorem code_scope {f : Nat} {body : Code} {x : CodeK} (hb : CodeIn P f body) (hx : CodeOk (RtOk P C) P C (ntOf C f) x body) : CodeOk (RtOk P C) P C (ntOf C f) (scopeC f body x) (.scope body) := by
  intro rt rd r ds e h kn kx ρ a w Q hT hr hrun hA hH hn hk
  have key : ∀ (m : Nat) (y : X) (ds' : List D) (e' : Env) (h' : Heap) (ρ' : Ren) (a' : Act) (w' : World),
      rounds (fun (_ : X) (_ : List D) (_ : Env) (_ : Heap) => false)
        (fun r x ds e h => X.onGoto x (fun l => onOpt (findLabel body l) (kx x ds e h) (fun c => rt.code f c rd ds e h kn r)) (kx x ds e h)) m y ds' e' h' = true →
      ActOk ρ' (ntOf C f) ds' e' a' → HeapRel P C ρ' h' w' → Le ρ h w ρ' h' w' → Exit.scopd (fen r) 0 P Q body (exitOf y) a' w' := by
    intro m
    induction m with
    | zero => intro y ds' e' h' ρ' a' w' hrun; exact absurd hrun (by simp [rounds])
    | succ m ih =>
      intro y ds' e' h' ρ' a' w' hrun hA' hH' hL'
      have hrun : X.onGoto y (fun l => onOpt (findLabel body l) (kx y ds' e' h') (fun c => rt.code f c rd ds' e' h' kn (rounds (fun (_ : X) (_ : List D) (_ : Env) (_ : Heap) => false)
        (fun r x ds e h => X.onGoto x (fun l => onOpt (findLabel body l) (kx x ds e h) (fun c => rt.code f c rd ds e h kn r)) (kx x ds e h)) m))) (kx y ds' e' h') = true := hrun
      rcases X.onGoto_true.1 hrun with ⟨l, rfl, h1⟩ | ⟨hno, h1⟩
      · show (match findLabel body l with
          | some c => InScope (fen r) 0 P Q body c a' w'
          | none => Q (.goto l) a' w')
        rcases onOpt_true.1 h1 with ⟨hl, h2⟩ | ⟨c, hl, h2⟩
        · rw [hl]; exact hk (.goto l) ds' e' h' ρ' a' w' h2 hA' hH' hL'
        · rw [hl]
          refine inScope_of_wpIn (hT.code f c (findLabel_in hb hl) rd r ds' e' h' _ _ ρ' a' w' _ (hr.mono hL'.ren) h2 hA' hH' ?_ ?_)
          · intro ds2 e2 h2' ρ2 a2 w2 hx2 hA2 hH2 hL2
            exact hn ds2 e2 h2' ρ2 a2 w2 hx2 hA2 hH2 (hL'.trans hL2)
          · intro y2 ds2 e2 h2' ρ2 a2 w2 hx2 hA2 hH2 hL2
            exact ih y2 ds2 e2 h2' ρ2 a2 w2 hx2 hA2 hH2 (hL'.trans hL2)
      · have := hk y ds' e' h' ρ' a' w' h1 hA' hH' hL'
        cases y with
        | exit id => exact this
        | goto l => exact absurd rfl (hno l)
        | ret => exact this
  refine wpIn_scope (hx rt rd r ds e h kn _ ρ a w _ hT hr hrun hA hH ?_ ?_)
  · intro ds2 e2 h2' ρ2 a2 w2 hx2 hA2 hH2 hL2
    exact hn ds2 e2 h2' ρ2 a2 w2 hx2 hA2 hH2 hL2
  · intro y2 ds2 e2 h2' ρ2 a2 w2 hx2 hA2 hH2 hL2
    exact key loopFuel y2 ds2 e2 h2' ρ2 a2 w2 hx2 hA2 hH2 hL2

theorem callB_rel (hP : ProgOk P C) {rt : Rt} (hT : RtOk P C rt) {f : Nat} {args : List V} {h : Heap} {k : V → Heap → Bool} {xs : Array Value} {w : World} (hx : (callB C f).run rt args h k = true) (hr : RelL ρ args xs.toList) (hH : HeapRel P C ρ h w) :
    (∀ w', (callFunc f xs).run P w' = .ok (.enter f xs) w') ∧ CallsIn (fen none) 0 P f xs w (fun e w' => ∃ v, e = .returned v ∧ After P C ρ h w k v w') := by
  unfold callB at hx
  split at hx
  · rename_i fi hfi
    split at hx
    · rename_i c _ hc
      obtain ⟨fn, h1, h2, h3, h4, h5⟩ := hP.fn f fi hfi
      exact ⟨fun w' => run_enter h1 h5 (by rw [← h4]; exact hc) xs w', hT.call f args h k ρ xs w hx hr hH⟩
    · exact absurd hx (by simp)
  · exact absurd hx (by simp)

/-- A loop over a function, its record laid. -/
theorem range_go (hP : ProgOk P C) {rt : Rt} (hT : RtOk P C rt) {f : Nat} {g : Operand} {ps : Array Tmp} {asg body : Code} {gf : Nat} {first cap : List V} {fa ca : Array Value} {db : Nat} {Db : Blk} {ds : List D} {e : Env} {h : Heap} {kn : List D → Env → Heap → Bool} {kx : X → List D → Env → Heap → Bool}
    {a a' : Act} {w w0 : World} {ρ0 : Ren} {h0 : Heap} {Q : Exit → Act → World → Prop} {r : Option Nat} {lo : Loop} (hv : a.eval g = .func (.func gf) fa ca) (hfa : RelL ρ first fa.toList) (hca : RelL ρ cap ca.toList) (hD : ρ db = some Db)
    (hlo : lo.state = .ready ∧ lo.pending = none ∧ EnvRel ρ e lo.tmps ∧ lo.params = ps ∧ lo.assign = asg ∧ lo.body = body ∧ lo.defers = Db.b) (ha : CodeIn P f asg) (hb : CodeIn P f body) (hfn : ∃ fn, P.funcs[f]? = some fn ∧ fn.ntmps = lo.tmps.size) (hps : ∀ p ∈ ps.toList, p < lo.tmps.size)
    (hH : HeapRel P C ρ h w) (hL : Le ρ0 h0 w0 ρ h w) (hA : ActOk ρ (ntOf C f) ds e a')
    (hn : Kont P C ρ0 h0 w0 (ntOf C f) kn (Q .normal)) (hk : KontX P C ρ0 h0 w0 (ntOf C f) kx Q)
    (hx : rangeGo C rt f ps.toList asg body gf first cap db ds e h kn kx = true) :
    ∃ (d : Deferred) (args : Array Value), (resolve a.eval (rangeCall g w.heap.size) 0).run P (w.alloc (.loop lo)) = .ok d (w.alloc (.loop lo)) ∧ (invoke d.target d.args).run P (w.alloc (.loop lo)) = .ok (.enter gf args) (w.alloc (.loop lo)) ∧
      CallsIn (fen r) 0 P gf args (w.alloc (.loop lo)) (rangePost (fen r) 0 P w.heap.size Q a') := by
  unfold rangeGo at hx
  obtain ⟨h1, hx, hn1, hg1⟩ := hnew_spec hx
  rw [frcApp_eq] at hx
  obtain ⟨l1, l2, l3, l4, l5, l6, l7⟩ := hlo
  have hren : ∀ i B, ρ i = some B → (if i = h.nx then some (⟨w.heap.size, 0, 0⟩ : Blk) else ρ i) = some B := fun i B hi => by
    rw [if_neg (by have := (hH.dom i B hi).1; omega)]; exact hi
  obtain ⟨hH1, hL1⟩ := hH.push (w' := w.alloc (.loop lo)) (B := ⟨w.heap.size, 0, 0⟩) rfl rfl hn1 hg1
    ⟨lo, rfl, l1, by rw [l2]; rfl, fun t => (l3 t).mono hren, by rw [l4], l5, l6, ⟨Db, hren _ _ hD, l7⟩, ha, hb, hfn, hps⟩
  have hl : (fun i => if i = h.nx then some (⟨w.heap.size, 0, 0⟩ : Blk) else ρ i) h.nx = some ⟨w.heap.size, 0, 0⟩ := by simp
  generalize hρ1 : (fun i => if i = h.nx then some (⟨w.heap.size, 0, 0⟩ : Blk) else ρ i) = ρ1 at hH1 hL1 hl
  have hargs : RelL ρ1 (first ++ (.yield h.nx :: cap)) ((fa ++ #[Value.func (.yield w.heap.size) #[] #[]]) ++ ca).toList := by
    have := (hfa.mono hL1.ren).app (RelL.cons (RelV.yield h.nx _ hl) (hca.mono hL1.ren))
    simpa using this
  obtain ⟨hent, hcall⟩ := callB_rel hP hT hx hargs hH1
  refine ⟨{ target := .fn (.func gf) ca, args := fa ++ #[.func (.yield w.heap.size) #[] #[]] }, (fa ++ #[Value.func (.yield w.heap.size) #[] #[]]) ++ ca, ?_, ?_, ?_⟩
  · have hc : a.eval (.const (.func (.yield w.heap.size) #[] #[])) = .func (.yield w.heap.size) #[] #[] := rfl
    simp [resolve, rangeCall, hv, hc, Deferred.ofValue]
  · simp only [invoke]
    exact hent _
  · refine callsIn_fen (hcall.mono ?_)
    rintro en w2 ⟨v, rfl, V, h2, ρ2, hx2, hV, hH2, hL2⟩
    obtain ⟨st, pd, f2, e2, ps2, a2, b2, d2, hg2, hx2⟩ := O.onLoop_true.1 hx2
    obtain ⟨hst, hx2⟩ := LS.notBusy_true.1 hx2
    have hl2 := hL2.ren _ _ hl
    obtain ⟨lo2, q1, q2, q3, _⟩ := loop_obj hH2 hl2 hg2
    obtain ⟨h3, hx3, hH3, hL3⟩ := put_loop hH2 hl2 hg2 q1 hx2
    have hw3 : ({ lo2 with state := .exhausted, pending := pd.map jumpOf } : Loop) = { lo2 with state := .exhausted } := by rw [← q3]
    rw [hw3] at hH3 hL3
    have hLL := ((hL.trans hL1).trans hL2).trans hL3
    have hA3 : ActOk ρ2 (ntOf C f) ds e a' := hA.mono fun i B hi => hL2.ren _ _ (hL1.ren _ _ hi)
    have hend : (Instr.endLoop w.heap.size).run P w2 = .ok lo2.pending { w2 with heap := w2.heap.setIfInBounds w.heap.size (.loop { lo2 with state := .exhausted }) } := by
      unfold Instr.endLoop
      have hbz : (lo2.state == .busy) = false := by rw [q2]; cases st <;> first | rfl | exact absurd rfl hst
      simp only [Sem.run_bind, run_getLoop q1, Result.andThen_ok, hbz, Bool.false_eq_true, if_false, run_setLoop q1, Sem.run_pure]
    dsimp only at hH3 hL3 hLL
    generalize ({ w2 with heap := w2.heap.setIfInBounds w.heap.size (.loop { lo2 with state := .exhausted }) } : World) = W at hH3 hL3 hLL hend
    refine ⟨lo2.pending, _, hend, ?_⟩
    rw [q3]
    rcases onOpt_true.1 hx3 with ⟨rfl, hx4⟩ | ⟨x, rfl, hx4⟩
    · exact hn ds e h3 ρ2 a' _ hx4 hA3 hH3 hLL
    · have := hk x ds e h3 ρ2 a' _ hx4 hA3 hH3 hLL
      cases x with
      | exit id => exact wpIn_exit this
      | goto l => exact wpIn_goto this
      | ret => exact wpIn_ret this

theorem code_range (hP : ProgOk P C) {f : Nat} {g : Operand} {ps : Array Tmp} {asg body : Code} (hin : CodeIn P f (.rangeFunc g ps asg body)) : CodeOk (RtOk P C) P C (ntOf C f) (rangeC C f g ps.toList asg body) (.rangeFunc g ps asg body) := by
  have ha : CodeIn P f asg := hin.map .rangeA
  have hb : CodeIn P f body := hin.map .rangeB
  unfold rangeC
  split
  · exact code_bad
  · rename_i hall
    intro rt rd r ds e h kn kx ρ a w Q hT hr hrun hA hH hn hk
    have hps : ∀ p ∈ ps.toList, p < a.tmps.size := fun p hp => by
      rw [hA.size]
      exact Nat.le_of_ble_eq_true (List.all_eq_true.1 hall p hp)
    have hfn : ∃ fn, P.funcs[f]? = some fn ∧ fn.ntmps = a.tmps.size := by
      obtain ⟨fn, b, h1, h2, _⟩ := hin
      exact ⟨fn, h1, by rw [hA.size, hP.nt f fn h1]⟩
    rcases V.onFn_true.1 hrun with ⟨gf, first, cap, hg, hx⟩ | ⟨_, _, hx⟩
    · have hgr := opnd_rel hA.env g
      rw [hg] at hgr
      obtain ⟨fa, ca, hv, hfa, hca⟩ := hgr.fn_inv
      rcases ifb_true.1 hx with ⟨h0, hx1⟩ | ⟨h0, hx1⟩
      · have h0 := Nat.eq_of_beq_eq_true h0
        obtain rfl : r = none := by
          rcases hr with ⟨_, hr⟩ | ⟨l, B, h1, _⟩
          · exact hr
          · omega
        obtain ⟨h1, hx2, hn1, hg1⟩ := hnew_spec hx1
        obtain ⟨hH1, hL1⟩ := hH.push (w' := w.alloc (.deferred (some []))) (B := ⟨w.heap.size, 0, 0⟩) rfl rfl hn1 hg1 rfl
        have hD : (fun i => if i = h.nx then some (⟨w.heap.size, 0, 0⟩ : Blk) else ρ i) h.nx = some ⟨w.heap.size, 0, 0⟩ := by simp
        generalize hρ1 : (fun i => if i = h.nx then some (⟨w.heap.size, 0, 0⟩ : Blk) else ρ i) = ρ1 at hH1 hL1 hD
        refine wpIn_rangeFunc fun fn _ => ?_
        obtain ⟨d, args, h2, h3, h4⟩ := range_go (r := none) (Q := Q) (lo := { state := .ready, pending := none, fn := fn, tmps := a.tmps, params := ps, assign := asg, body := body, defers := w.heap.size }) (a' := { a with defers := { target := .collected w.heap.size, args := #[] } :: a.defers }) hP hT hv (hfa.mono hL1.ren) (hca.mono hL1.ren) hD
          ⟨rfl, rfl, fun t => (hA.env t).mono hL1.ren, rfl, rfl, rfl, rfl⟩ ha hb hfn hps hH1 hL1 ⟨fun t => (hA.env t).mono hL1.ren, hA.size, .cons (.collected h.nx _ hD) (hA.mono hL1.ren).defers⟩ hn hk hx2
        refine ⟨_, [{ target := .collected w.heap.size, args := #[] }], _, d, _, gf, args, _, ?_, h2, fun _ _ => trivial, h3, fun h => by simp at h, h4⟩
        simp [Instr.enterLoop]
      · have hr' : ∃ l B, rd = l + 1 ∧ ρ l = some B ∧ r = some B.b := by
          rcases hr with ⟨h1, _⟩ | h1
          · rw [h1] at h0; simp at h0
          · exact h1
        obtain ⟨l, B, rfl, hB, rfl⟩ := hr'
        obtain ⟨st, pd, f2, e2, ps2, a2, b2, db, hg2, hx2⟩ := O.onLoop_true.1 hx1
        have hg2 : hget l h = .loop st pd f2 e2 ps2 a2 b2 db := hg2
        obtain ⟨lo2, q1, _, _, _, _, _, _, ⟨D, hD, q8⟩, _⟩ := loop_obj hH hB hg2
        refine wpIn_rangeFunc fun fn _ => ?_
        obtain ⟨d, args, h2, h3, h4⟩ := range_go (r := some B.b) (Q := Q) (lo := { state := .ready, pending := none, fn := fn, tmps := a.tmps, params := ps, assign := asg, body := body, defers := D.b }) (a' := a) hP hT hv hfa hca hD
          ⟨rfl, rfl, hA.env, rfl, rfl, rfl, rfl⟩ ha hb hfn hps hH (Le.refl _ _ _) hA hn hk hx2
        refine ⟨_, [], _, d, _, gf, args, _, ?_, h2, fun _ _ => trivial, h3, fun h => by simp at h, h4⟩
        simp [Instr.enterLoop, run_getLoop q1, q8]
    · exact absurd hx (by simp)

/-- Code, by its parts. -/
theorem cc_ok (hP : ProgOk P C) {f : Nat} : ∀ c : Code, CodeIn P f c → CodeOk (RtOk P C) P C (ntOf C f) (cc C f c) c
  | .skip, h => code_skip
  | .region id ops false, h => code_region (ok_op hP)
  | .region id ops true, h => by
    show CodeOk (RtOk P C) P C (ntOf C f) (regionC C f id ops true) (.region id ops true)
    cases hdr : C.dr f id with
    | none =>
      unfold regionC
      dsimp only
      rw [hdr]
      exact code_bad
    | some l =>
      refine code_drawn (A := ancs ops.toList) hP.toCtxOk hP.mixed (ok_op hP) hdr ?_
      obtain ⟨fn, b, h1, h2, h3⟩ := h
      have := drawsOk_part (hP.draw f fn b h1 h2) h3
      simpa only [drawsOk, hdr] using this
  | .seq a b, h => code_seq (cc_ok hP a (h.map .seqL)) (cc_ok hP b (h.map .seqR))
  | .cond x a b, h => code_cond (cc_ok hP a (h.map .condT)) (cc_ok hP b (h.map .condE))
  | .block i b, h => code_block (cc_ok hP b (h.map .block))
  | .loop b, h => code_loop (cc_ok hP b (h.map .loop))
  | .rangeFunc g ps a b, h => code_range hP h
  | .exit i, h => code_exit
  | .scope b, h => code_scope (h.map .scope) (cc_ok hP b (h.map .scope))
  | .label l, h => code_label
  | .goto l, h => code_goto
  | .ret, h => code_ret
  | .refuse s, h => code_bad
end
end Go.Ev
end

section
/- Functions; levels of calls. -/
namespace Go.Ev
open Go
set_option linter.unusedVariables false
set_option linter.unusedSimpArgs false
section
variable {P : Program} {C : Ctx} {ρ : Ren}

def resSem (tmps : Array Value) : ResultVar → Sem Value
  | .tmp t => pure (tmps.getD t undef)
  | .cell a t => do loadVar t (← asAddr (tmps.getD a undef))

theorem run_mapM {α : Type} {f : α → Sem Value} {w : World} : ∀ {l : List α} {vs : List Value}, All2 (fun x v => (f x).run P w = .ok v w) l vs → (l.mapM f).run P w = .ok vs w
  | _, _, .nil => by simp [Sem.run_pure]
  | _, _, .cons h t => by
    rw [List.mapM_cons]
    simp only [Sem.run_bind, h, Result.andThen_ok, run_mapM t, Sem.run_pure]

def one1 (vs : List Value) : Value := match vs with
  | [v] => v
  | vs => .tuple vs.toArray

theorem run_results {fn : Func} {tmps : Array Value} {vs : List Value} {w : World} (h : All2 (fun x v => (resSem tmps x).run P w = .ok v w) fn.results.toList vs) :
    (results fn tmps).run P w = .ok (one1 vs) w := by
  have h1 : (fn.results.mapM (resSem tmps)).run P w = .ok vs.toArray w := by
    rw [Array.mapM_eq_mapM_toList]
    simp only [map_eq_pure_bind, Sem.run_bind, run_mapM h, Result.andThen_ok, Sem.run_pure]
  have e : results fn tmps = (do let vs ← fn.results.mapM (resSem tmps); pure (if h : vs.size = 1 then vs[0] else .tuple vs)) := rfl
  rw [e]
  simp only [Sem.run_bind, h1, Result.andThen_ok, Sem.run_pure]
  clear h h1 e
  match vs with
  | [] => rfl
  | [v] => rfl
  | v :: u :: l => simp [one1]

theorem res_rel (hC : CtxOk P C) {tmps : Array Value} {e : Env} {h : Heap} {w : World} (hE : EnvRel ρ e tmps) (hH : HeapRel P C ρ h w) : ∀ {l : List ResultVar} {k : List V → Bool}, (resK C l).run e h k = true →
    ∃ Vs vs, k Vs = true ∧ RelL ρ Vs vs ∧ All2 (fun x v => (resSem tmps x).run P w = .ok v w) l vs
  | [], k, hx => ⟨[], [], hx, .nil, .nil⟩
  | .tmp t :: l, k, hx => by
    have hx : V.live ((eg t).get e) (fun v => (resK C l).run e h (fun vs => k (v :: vs))) = true := hx
    obtain ⟨_, hx⟩ := V.live_true.1 hx
    obtain ⟨Vs, vs, h1, h2, h3⟩ := res_rel hC hE hH hx
    exact ⟨_, _, h1, .cons (hE t) h2, .cons (by simp [resSem, Sem.run_pure]) h3⟩
  | .cell a t :: l, k, hx => by
    have hx : (loadK C t (.tmp a)).run ⟨fun _ _ _ _ => false, fun _ _ _ _ => false, fun _ _ _ _ _ _ _ _ => false⟩ e h (fun v _ => (resK C l).run e h (fun vs => k (v :: vs))) = true := hx
    obtain ⟨g, hg, hrun⟩ := readL_load (C := C) (t := t) (a := .tmp a) e h
    rw [hrun] at hx
    rcases hg with ⟨U, hV⟩ | hno
    · rw [hV] at hx
      obtain ⟨Vs, vs, h1, h2, h3⟩ := res_rel hC hE hH hx
      -- the load, as the machine makes it
      suffices hl : ∃ v, RelV ρ U v ∧ (resSem tmps (.cell a t)).run P w = .ok v w by
        obtain ⟨v, hv, hrv⟩ := hl
        exact ⟨_, _, h1, .cons hv h2, .cons hrv h3⟩
      clear hx h1 h2 h3
      classical
      have hx : (loadK C t (.tmp a)).run rt0 e h (fun v _ => decide (v = U)) = true := by rw [hrun, hV]; simp
      unfold loadK at hx
      split at hx
      · exact absurd hx (by simp [badK])
      · rename_i ti hti
        obtain ⟨i, i1, i2, i3⟩ := ty_some hC hti
        have hr : RelV ρ ((eg a).get e) (tmps.getD a undef) := hE a
        split at hx
        · rename_i hag
          obtain ⟨b, p, B, hB, hv, hx⟩ := onPtr_rel hr hx
          obtain ⟨l', xs, hk, hrl, h1', hl, hc⟩ := rowGets_rel hH hB hx
          have hk := of_decide_eq_true hk
          subst hk
          refine ⟨.agg xs.toArray, RelV.agg_of h1' (by simpa using hrl), ?_⟩
          have := run_loadCells_list (P := P) w ⟨B.b, p, none⟩ xs hc
          rw [← hrl.1, hl] at this
          simp [resSem, hv, asAddr, loadVar, run_isAgg i3, hag, run_size i1, i2, this]
        · rename_i hag
          have hx : V.onPG ((eg a).get e) (fun i o => rowGet i o h (fun v => decide (v = U))) (fun g o => onOpt (C.gl g) false (fun cs => nthL cs o (fun v => decide (v = U)))) = true := hx
          rcases V.onPG_true.1 hx with ⟨b, p, hxv, hx1⟩ | ⟨g', p, hxv, hx1⟩
          · rw [hxv] at hr
            obtain ⟨B, hB, hv⟩ : ∃ B, ρ b = some B ∧ tmps.getD a undef = .pointer (some ⟨B.b, p, none⟩) := by
              generalize tmps.getD a undef = vx at *
              cases hr with | ptr _ _ B hB => exact ⟨B, hB, rfl⟩
            obtain ⟨v, y, hk, hvy, _, hc⟩ := rowGet_rel hH hB hx1
            have hk := of_decide_eq_true hk
            subst hk
            exact ⟨y, hvy, by simp [resSem, hv, asAddr, loadVar, run_isAgg i3, hag, hc]⟩
          · rw [hxv] at hr
            have hv : tmps.getD a undef = .pointer (some ⟨g', p, none⟩) := by
              generalize tmps.getD a undef = vx at *
              cases hr; rfl
            rcases onOpt_true.1 hx1 with ⟨_, hx2⟩ | ⟨cs, hcs, hx2⟩
            · exact absurd hx2 (by simp)
            · obtain ⟨v, hv', hk⟩ := nthL_spec hx2
              obtain ⟨_, xs, u, fr, h4, h5⟩ := hH.glob g' cs hcs
              obtain ⟨y, h6, h7⟩ := h5 p v hv'
              have hc : w.cell? ⟨g', p, none⟩ = some y := by rw [cell_of h4]; exact h6
              have hk := of_decide_eq_true hk
              subst hk
              exact ⟨y, h7, by simp [resSem, hv, asAddr, loadVar, run_isAgg i3, hag, hc]⟩
    · rw [hno] at hx; exact absurd hx (by simp)

theorem oneV_rel {Vs : List V} {vs : List Value} {k : V → Bool} (hr : RelL ρ Vs vs) (h : oneV Vs k = true) : ∃ V, k V = true ∧ RelV ρ V (one1 vs) := by
  match Vs, vs, hr with
  | [], vs, hr =>
    rw [hr.unnil]
    exact ⟨_, h, RelV.tup_of .nil⟩
  | [V], vs, hr =>
    obtain ⟨x, l, rfl, h1, h2⟩ := hr.uncons
    rw [h2.unnil]
    exact ⟨_, h, h1⟩
  | V :: U :: l, vs, hr =>
    have hr0 := hr
    obtain ⟨x, l1, rfl, h1, h2⟩ := hr.uncons
    obtain ⟨y, l2, rfl, h3, h4⟩ := h2.uncons
    exact ⟨_, h, RelV.tup_of (by simpa using hr0)⟩

theorem env_args {k : Env → Bool} : ∀ {args : List V} {xs : List Value} {i : Nat} {e : Env} {tmps : Array Value}, RelL ρ args xs → EnvRel ρ e tmps → i + args.length ≤ tmps.size → (∀ j, j < xs.length → tmps[i + j]? = xs[j]?) →
    foldL (fun (_ : Nat) e => k e) (fun v _ r i e => (ep i).put v e (fun e => frc (Nat.add i 1) (fun i => r i e))) args i e = true → ∃ e', k e' = true ∧ EnvRel ρ e' tmps
  | [], xs, i, e, tmps, hr, hE, hl, hj, h => ⟨e, h, hE⟩
  | v :: args, xs, i, e, tmps, hr, hE, hl, hj, h => by
    obtain ⟨x, l, rfl, h1, h2⟩ := hr.uncons
    have h : (ep i).put v e (fun e => frc (Nat.add i 1) (fun i => foldL (fun (_ : Nat) e => k e) (fun v _ r i e => (ep i).put v e (fun e => frc (Nat.add i 1) (fun i => r i e))) args i e)) = true := h
    obtain ⟨e1, h3, h4⟩ := ep_put h
    rw [frc_eq] at h3
    have hE1 : EnvRel ρ e1 tmps := by
      intro t
      rw [h4]
      by_cases ht : t = i
      · subst ht
        rw [if_pos rfl]
        have := hj 0 (by simp)
        rw [Array.getD_eq_getD_getElem?]
        simp at this
        rw [this]
        exact h1
      · rw [if_neg ht]; exact hE t
    have hl' : i + 1 + args.length ≤ tmps.size := by simp at hl; omega
    refine env_args h2 hE1 hl' (fun j hjl => ?_) h3
    have := hj (j + 1) (by simp; omega)
    rw [show i + 1 + j = i + (j + 1) by omega, this]
    simp

/-- A frame as a function is entered. -/
theorem enter_env {args : List V} {xs : Array Value} {nt : Nat} {k : Env → Bool} (hr : RelL ρ args xs.toList) (hl : args.length ≤ nt)
    (h : foldL (fun (_ : Nat) e => k e) (fun v _ r i e => (ep i).put v e (fun e => frc (Nat.add i 1) (fun i => r i e))) args 0 env0 = true) :
    ∃ e, k e = true ∧ ActOk ρ nt [] e { tmps := xs ++ Array.replicate (nt - xs.size) undef, defers := [] } := by
  have hxs : xs.size = args.length := by rw [hr.1]; simp
  obtain ⟨e, h1, h2⟩ := env_args (tmps := xs ++ Array.replicate (nt - xs.size) undef) hr (fun t => by rw [eg_env0]; exact .undef _) (by simp; omega) (fun j hj => by
    have hj : j < xs.size := by simpa using hj
    rw [Nat.zero_add, Array.getElem?_append_left hj, Array.getElem?_toList]) h
  exact ⟨e, h1, h2, by simp; omega, .nil⟩

theorem defers_rel (hP : ProgOk P C) {rt : Rt} (hT : RtOk P C rt) {fn : Func} {tmps : Array Value} {R : Ending → World → Prop} {ρ0 : Ren} {h0 : Heap} {w0 : World} {k : Heap → Bool}
    (hk : ∀ h ρ w, k h = true → (∀ i B, ρ0 i = some B → ρ i = some B) → HeapRel P C ρ h w → Le ρ0 h0 w0 ρ h w → ∃ v, (results fn tmps).run P w = .ok v w ∧ R (.returned v) w) :
    ∀ {ds : List D} {xs : List Deferred} {ρ : Ren} {h : Heap} {w : World}, All2 (DRel ρ) ds xs → (∀ i B, ρ0 i = some B → ρ i = some B) → HeapRel P C ρ h w → Le ρ0 h0 w0 ρ h w → defersK C rt ds h k = true → LeavesInM (fen none) 0 P fn tmps R xs .returning w
  | [], _, ρ, h, w, .nil, hρ, hH, hL, hx => by
    obtain ⟨v, h1, h2⟩ := hk h ρ w hx hρ hH hL
    exact ⟨v, h1, h2⟩
  | d :: ds, _, ρ, h, w, .cons hd hds, hρ, hH, hL, hx => by
    have hx : onD d (fun f args => calldK C f args rt h (fun h => defersK C rt ds h k)) (fun i => O.onDefd (hget i h) (fun c => onOpt c false (fun l => onList l (hput i (.defd none) h (fun h => defersK C rt ds h k)) (fun _ _ => false)))) = true := hx
    cases hd with
    | call f a args cap hl =>
      have hx : calldK C f a rt h (fun h => defersK C rt ds h k) = true := hx
      have hx : ∃ fi c, C.fn f = some fi ∧ fi.body = some c ∧ rt.calld f a h (fun h => defersK C rt ds h k) = true := by
        unfold calldK at hx
        cases hfi : C.fn f with
        | none => rw [hfi] at hx; exact absurd hx (by simp)
        | some fi =>
          rw [hfi] at hx
          dsimp only at hx
          cases he : fi.ext with
          | some e => rw [he] at hx; exact absurd hx (by simp)
          | none =>
            rw [he] at hx
            cases hc : fi.body with
            | none => rw [hc] at hx; exact absurd hx (by simp)
            | some c => rw [hc] at hx; exact ⟨fi, c, rfl, hc, hx⟩
      obtain ⟨fi, c, hfi, hc, hx⟩ := hx
      obtain ⟨fn', h1, h2, h3, h4, h5⟩ := hP.fn f fi hfi
      refine ⟨by simp, .inr ⟨fun h => by simp at h, .func f, cap, f, args ++ cap, rfl, ?_, fun _ _ => trivial, ?_⟩⟩
      · show (callFunc f (args ++ cap)).run P w = _
        exact run_enter h1 h5 (by rw [← h4]; exact hc) _ _
      · refine (hT.calld f a h _ ρ (args ++ cap) w .returning hx hl hH).mono ?_
        rintro en u' w' ⟨rfl, v, h', ρ', rfl, hx', hH', hL'⟩
        exact defers_rel hP hT hk (hds.mono fun _ _ => DRel.mono hL'.ren) (fun i B hi => hL'.ren _ _ (hρ i B hi)) hH' (hL.trans hL') hx'
    | collected i B hB =>
      have hx : O.onDefd (hget i h) (fun c => onOpt c false (fun l => onList l (hput i (.defd none) h (fun h => defersK C rt ds h k)) (fun _ _ => false))) = true := hx
      obtain ⟨c, hg, hx⟩ := O.onDefd_true.1 hx
      rcases onOpt_true.1 hx with ⟨_, hx1⟩ | ⟨l, rfl, hx1⟩
      · exact absurd hx1 (by simp)
      · cases l with
        | cons y l => exact absurd hx1 (by show ¬ (false = true); simp)
        | nil =>
          have hx1 : hput i (.defd none) h (fun h => defersK C rt ds h k) = true := hx1
          have hob := hH.obj i B hB
          rw [hg] at hob
          have hob : w.heap[B.b]? = some (.deferred (some [])) := hob
          obtain ⟨h', hk', hn, hg'⟩ := hput_spec hx1
          have hb := (hH.dom i B hB).2
          obtain ⟨hH', hL'⟩ := hH.put (w' := { w with heap := w.heap.setIfInBounds B.b (.deferred none) }) (o := .defd none) hB (by rw [hg]; rfl) (by simp)
            (by show _ = _; simp [hb]) (fun b hne => by simp [Array.getElem?_setIfInBounds, hne.symm]) hn hg' (by simp)
          refine ⟨by simp, .inl ⟨B.b, { w with heap := w.heap.setIfInBounds B.b (.deferred none) }, rfl, ?_, ?_⟩⟩
          · simp [Instr.takeDeferred, getObj, setObj, Sem.run, hob]
          · exact defers_rel hP hT hk (hds.mono fun _ _ => DRel.mono hL'.ren) (fun i B hi => hL'.ren _ _ (hρ i B hi)) hH' (hL.trans hL') hk'

theorem fnK_ok (hP : ProgOk P C) {rt : Rt} (hT : RtOk P C rt) {f : Nat} {args : List V} {h : Heap} {k : V → Heap → Bool} {xs : Array Value} {w : World} (hx : (fnK C f).run rt args h k = true) (hr : RelL ρ args xs.toList) (hH : HeapRel P C ρ h w) :
    CallsIn (fen none) 0 P f xs w (fun e w' => ∃ v, e = .returned v ∧ After P C ρ h w k v w') := by
  unfold fnK at hx
  split at hx
  · exact absurd hx (by simp)
  · rename_i fi hfi
    split at hx
    · exact absurd hx (by simp)
    · rename_i c hc
      dsimp only at hx
      obtain ⟨fn, h1, h2, h3, h4, h5⟩ := hP.fn f fi hfi
      have hbody : fn.body = some c := by rw [← h4]; exact hc
      obtain ⟨hle, hx⟩ := ifb_and.1 hx
      have hle : args.length ≤ fi.nt := by rw [← lenL_eq]; exact Nat.le_of_ble_eq_true hle
      rw [h2] at hle
      obtain ⟨e, hx, hA⟩ := enter_env hr hle hx
      have hin : CodeIn P f c := ⟨fn, c, h1, hbody, .self⟩
      have hnt := hP.nt f fn h1
      refine callsIn_of_wp_marks h1 hbody trivial ?_
      have fin : ∀ (ds' : List D) (e' : Env) (h' : Heap) (ρ' : Ren) (a' : Act) (w' : World), defersK C rt ds' h' (fun h => (resK C fi.res).run e' h (fun vs => oneV vs (fun v => k v h))) = true → ActOk ρ' (ntOf C f) ds' e' a' → HeapRel P C ρ' h' w' → Le ρ h w ρ' h' w' →
          LeavesInM (fen none) 0 P fn a'.tmps (fun e w' => ∃ v, e = .returned v ∧ After P C ρ h w k v w') a'.defers .returning w' := by
        intro ds' e' h' ρ' a' w' hx' hA' hH' hL'
        refine defers_rel hP hT (ρ0 := ρ') (h0 := h') (w0 := w') ?_ hA'.defers (fun _ _ h => h) hH' (Le.refl _ _ _) hx'
        intro h2' ρ2 w2 hx2 hρ2 hH2 hL2
        have hE2 : EnvRel ρ2 e' a'.tmps := fun t => (hA'.env t).mono hρ2
        obtain ⟨Vs, vs, hx3, h6, h7⟩ := res_rel hP.toCtxOk hE2 hH2 hx2
        obtain ⟨V, hx4, h8⟩ := oneV_rel h6 hx3
        rw [h3] at h7
        exact ⟨_, run_results h7, _, rfl, V, h2', ρ2, hx4, h8, hH2, hL'.trans hL2⟩
      refine cc_ok hP c hin rt 0 none [] e h _ _ ρ _ w _ hT (.inl ⟨rfl, rfl⟩) hx (by rw [hnt]; exact hA) hH ?_ ?_
      · intro ds' e' h' ρ' a' w' hx' hA' hH' hL'
        exact fin ds' e' h' ρ' a' w' hx' hA' hH' hL'
      · intro x ds' e' h' ρ' a' w' hx' hA' hH' hL'
        obtain ⟨rfl, hx'⟩ := X.onRet_true.1 hx'
        exact fin ds' e' h' ρ' a' w' hx' hA' hH' hL'

theorem fnD_ok (hP : ProgOk P C) {rt : Rt} (hT : RtOk P C rt) {f : Nat} {args : List V} {h : Heap} {k : Heap → Bool} {xs : Array Value} {w : World} {u : FrameMode} (hx : fnD C f rt args h k = true) (hr : RelL ρ args xs.toList) (hH : HeapRel P C ρ h w) :
    CallsDIn (fen none) 0 P f xs u w (fun e u' w' => u' = u ∧ ∃ v h' ρ', e = .returned v ∧ k h' = true ∧ HeapRel P C ρ' h' w' ∧ Le ρ h w ρ' h' w') := by
  cases hfi : C.fn f with
  | none => unfold fnD at hx; rw [hfi] at hx; exact absurd hx (by simp)
  | some fi =>
    cases hc : fi.body with
    | none => unfold fnD at hx; rw [hfi] at hx; dsimp only at hx; rw [hc] at hx; exact absurd hx (by simp)
    | some c =>
      have hx : ifb (Nat.ble (lenL args) fi.nt) (foldL (fun (_ : Nat) e =>
            (cc C f c).run rt 0 [] e h (fun ds e h => onList ds ((resK C fi.res).run e h (fun vs => k h)) (fun _ _ => false))
              (fun x ds e h => X.onRet x (onList ds ((resK C fi.res).run e h (fun vs => k h)) (fun _ _ => false))))
          (fun v _ r i e => (ep i).put v e (fun e => frc (Nat.add i 1) (fun i => r i e))) args 0 env0) false = true := by
        unfold fnD at hx; rw [hfi] at hx; dsimp only at hx; rw [hc] at hx; exact hx
      obtain ⟨fn, h1, h2, h3, h4, h5⟩ := hP.fn f fi hfi
      have hbody : fn.body = some c := by rw [← h4]; exact hc
      obtain ⟨hle, hx⟩ := ifb_and.1 hx
      have hle : args.length ≤ fi.nt := by rw [← lenL_eq]; exact Nat.le_of_ble_eq_true hle
      rw [h2] at hle
      obtain ⟨e, hx, hA⟩ := enter_env hr hle hx
      have hin : CodeIn P f c := ⟨fn, c, h1, hbody, .self⟩
      have hnt := hP.nt f fn h1
      refine callsDIn_of_wp (R := fun e w' => ∃ v h' ρ', e = .returned v ∧ k h' = true ∧ HeapRel P C ρ' h' w' ∧ Le ρ h w ρ' h' w') h1 hbody trivial ?_
      have fin : ∀ (ds' : List D) (e' : Env) (h' : Heap) (ρ' : Ren) (a' : Act) (w' : World), onList ds' ((resK C fi.res).run e' h' (fun vs => k h')) (fun _ _ => false) = true → ActOk ρ' (ntOf C f) ds' e' a' → HeapRel P C ρ' h' w' → Le ρ h w ρ' h' w' →
          a'.defers = [] ∧ ∃ v, (results fn a'.tmps).run P w' = .ok v w' ∧ ∃ v' h2 ρ2, Ending.returned v = .returned v' ∧ k h2 = true ∧ HeapRel P C ρ2 h2 w' ∧ Le ρ h w ρ2 h2 w' := by
        intro ds' e' h' ρ' a' w' hx' hA' hH' hL'
        cases ds' with
        | cons d ds' => exact absurd hx' (by show ¬ (false = true); simp)
        | nil =>
          have hd := hA'.defers
          cases hds : a'.defers with
          | cons d ds => rw [hds] at hd; cases hd
          | nil =>
            have hx' : (resK C fi.res).run e' h' (fun vs => k h') = true := hx'
            obtain ⟨Vs, vs, hx3, h6, h7⟩ := res_rel hP.toCtxOk hA'.env hH' hx'
            rw [h3] at h7
            exact ⟨rfl, _, run_results h7, _, h', ρ', rfl, hx3, hH', hL'⟩
      refine cc_ok hP c hin rt 0 none [] e h _ _ ρ _ w _ hT (.inl ⟨rfl, rfl⟩) hx (by rw [hnt]; exact hA) hH ?_ ?_
      · intro ds' e' h' ρ' a' w' hx' hA' hH' hL'
        exact fin ds' e' h' ρ' a' w' hx' hA' hH' hL'
      · intro x ds' e' h' ρ' a' w' hx' hA' hH' hL'
        obtain ⟨rfl, hx'⟩ := X.onRet_true.1 hx'
        exact fin ds' e' h' ρ' a' w' hx' hA' hH' hL'

theorem rt_ok (hP : ProgOk P C) : ∀ n, RtOk P C (rtN C n)
  | 0 => ⟨fun f args h k ρ xs w hx => absurd hx (by show ¬ (false = true); simp), fun f args h k ρ xs w u hx => absurd hx (by show ¬ (false = true); simp), fun fn c _ rd r ds e h kn kx ρ a w Q _ hx => absurd hx (by show ¬ (false = true); simp)⟩
  | n + 1 => by
    have ih := rt_ok hP n
    exact ⟨fun f args h k ρ xs w hx hr hH => fnK_ok hP ih hx hr hH, fun f args h k ρ xs w u hx hr hH => fnD_ok hP ih hx hr hH,
      fun fn c hin rd r ds e h kn kx ρ a w Q hrd hx hA hH hn hk => cc_ok hP c hin (rtN C n) rd r ds e h kn kx ρ a w Q ih hrd hx hA hH hn hk⟩
end
end Go.Ev
end

section
/- The tables are the program's. -/
namespace Go.Ev
open Go
set_option linter.unusedVariables false
set_option linter.unusedSimpArgs false
section
variable {P : Program}

theorem get3_far {α : Type} {d : α} {s : T3 α} {n : Nat} (h : 4096 ≤ n) : get3 α d n s = d := by
  show (sel (d0 n)).get α d ((p2? (n / 16)).get (S16 α) (rep16 α d) s) = d
  rw [p2q_of_ge (by omega)]
  show (sel (d0 n)).get α d (rep16 α d) = d
  exact rep16_get (d0_lt n)
theorem put3_spec {α : Type} {d v : α} {n : Nat} {s : T3 α} {k : T3 α → Bool} (h : put3 α d v n s k = true) : ∃ s', k s' = true ∧ ∀ m, get3 α d m s' = if m = n then v else get3 α d m s := by
  obtain ⟨_, b, hb, hg⟩ := sel_put (n := d0 n) h
  obtain ⟨hn, s', hk, hs⟩ := p2q_put (n := n / 16) hb
  refine ⟨s', hk, fun m => ?_⟩
  show (sel (d0 m)).get α d ((p2? (m / 16)).get (S16 α) (rep16 α d) s') = if m = n then v else (sel (d0 m)).get α d ((p2? (m / 16)).get (S16 α) (rep16 α d) s)
  rw [hs]
  by_cases h1 : m / 16 = n / 16
  · rw [if_pos h1, hg d (d0 m) (d0_lt m)]
    have e : (d0 m = d0 n) ↔ m = n := by
      show m % 16 = n % 16 ↔ m = n
      omega
    rw [h1]
    simp only [e]
    rfl
  · rw [if_neg h1, if_neg (fun he => h1 (by rw [he]))]
theorem empty3_get {α : Type} {d : α} (n : Nat) : get3 α d n (empty3 α d) = d := by
  rcases Nat.lt_or_ge n 4096 with h | h
  · show (sel (d0 n)).get α d ((p2? (n / 16)).get (S16 α) (rep16 α d) (rep16 _ (rep16 _ (rep16 _ d)))) = d
    rw [p2q_of_lt (by omega), rep_p2, rep16_get (d0_lt n)]
  · exact get3_far h

theorem tab3_go {α : Type} {k : T3 (Option α) → Bool} : ∀ (l : List (Option α)) (i : Nat) (s : T3 (Option α)),
    foldL (fun (_ : Nat) s => k s) (fun x _ r i s => put3 (Option α) none x i s (fun s => frc (Nat.add i 1) (fun i => r i s))) l i s = true →
    ∃ t, k t = true ∧ ∀ n, get3 _ none n t = if n < i then get3 _ none n s else match l[n - i]? with | some x => x | none => get3 _ none n s
  | [], i, s, h => ⟨s, h, fun n => by split <;> simp⟩
  | x :: l, i, s, h => by
    have h : put3 (Option α) none x i s (fun s => frc (Nat.add i 1) (fun i => foldL (fun (_ : Nat) s => k s) (fun x _ r i s => put3 (Option α) none x i s (fun s => frc (Nat.add i 1) (fun i => r i s))) l i s)) = true := h
    obtain ⟨s', hk, hs⟩ := put3_spec h
    rw [frc_eq] at hk
    obtain ⟨t, h1, h2⟩ := tab3_go l (i + 1) s' hk
    refine ⟨t, h1, fun n => ?_⟩
    rw [h2]
    by_cases hn : n < i
    · rw [if_pos (by omega), if_pos hn, hs, if_neg (by omega)]
    · rw [if_neg hn]
      by_cases hn2 : n = i
      · subst hn2
        rw [if_pos (by omega), hs, if_pos rfl]
        simp
      · rw [if_neg (by omega), show n - i = (n - (i + 1)) + 1 by omega, List.getElem?_cons_succ]
        cases l[n - (i + 1)]? with
        | some y => rfl
        | none => simp only; rw [hs, if_neg hn2]
theorem tab3_spec {α : Type} {l : List (Option α)} {k : T3 (Option α) → Bool} (h : tab3 α l k = true) : ∃ t, k t = true ∧ ∀ n, get3 _ none n t = (l[n]?).join := by
  obtain ⟨t, h1, h2⟩ := tab3_go l 0 _ h
  refine ⟨t, h1, fun n => ?_⟩
  rw [h2, if_neg (by omega), Nat.sub_zero]
  cases l[n]? with
  | some x => rfl
  | none => exact empty3_get n

/-- The last entry of a number. -/
def lastN {α : Type} (l : List (Nat × α)) (n : Nat) (d : Option α) : Option α := match l with
  | [] => d
  | x :: r => lastN r n (if n = x.1 then some x.2 else d)
theorem tabN_go {α : Type} {k : T3 (Option α) → Bool} : ∀ (l : List (Nat × α)) (s : T3 (Option α)), foldL (fun s => k s) (fun x _ r s => put3 (Option α) none (some x.2) x.1 s (fun s => r s)) l s = true →
    ∃ t, k t = true ∧ ∀ n, get3 _ none n t = lastN l n (get3 _ none n s)
  | [], s, h => ⟨s, h, fun n => rfl⟩
  | x :: l, s, h => by
    have h : put3 (Option α) none (some x.2) x.1 s (fun s => foldL (fun s => k s) (fun x _ r s => put3 (Option α) none (some x.2) x.1 s (fun s => r s)) l s) = true := h
    obtain ⟨s', hk, hs⟩ := put3_spec h
    obtain ⟨t, h1, h2⟩ := tabN_go l s' hk
    exact ⟨t, h1, fun n => by rw [h2, hs]; rfl⟩
theorem tabN_spec {α : Type} {l : List (Nat × α)} {k : T3 (Option α) → Bool} (h : tabN α l k = true) : ∃ t, k t = true ∧ ∀ n, get3 _ none n t = lastN l n none := by
  obtain ⟨t, h1, h2⟩ := tabN_go l _ h
  exact ⟨t, h1, fun n => by rw [h2, empty3_get]⟩

/-- The tables, told plainly. -/
noncomputable def ctx0 (p : Program) (ext : Nat → Option Ext) (gl : Nat → Option (List V)) (drs : Drs) : Ctx :=
  mkCtx p (fun t => ((mkTIs p p.types.toList 0)[t]?).join) (fun f => ((mkFIs ext p.funcs.toList 0)[f]?).join) gl (drF (fun f => lastN drs f none))
theorem withCtx_true {p : Program} {ext : Nat → Option Ext} {gl : Nat → Option (List V)} {drs : Drs} {g : Ctx → Bool} (h : withCtx p ext gl drs g = true) : g (ctx0 p ext gl drs) = true := by
  obtain ⟨tt, h, h1⟩ := tab3_spec h
  obtain ⟨ft, h, h2⟩ := tab3_spec h
  obtain ⟨dt, h, h3⟩ := tabN_spec h
  unfold ctx0
  rw [← funext h1, ← funext h2, ← funext h3]
  exact h

theorem mkTIs_get {p : Program} : ∀ (l : List TypeInfo) (i t : Nat), ((mkTIs p l i)[t]?).join = (l[t]?).bind fun x => cond (tiOk p (i + t) x) (some (mkTI p (i + t) x)) none
  | [], i, t => by simp [mkTIs]
  | x :: l, i, 0 => by simp [mkTIs]
  | x :: l, i, t + 1 => by
    have := mkTIs_get (p := p) l (i + 1) t
    simp only [mkTIs, List.getElem?_cons_succ]
    rw [show Nat.add i 1 = i + 1 from rfl, this, show i + 1 + t = i + (t + 1) by omega]
theorem mkFIs_get {ext : Nat → Option Ext} : ∀ (l : List Func) (i f : Nat), ((mkFIs ext l i)[f]?).join = (l[f]?).map fun x => { nt := x.ntmps, res := x.results.toList, body := x.body, ext := ext (i + f) }
  | [], i, t => by simp [mkFIs]
  | x :: l, i, 0 => by simp [mkFIs]
  | x :: l, i, t + 1 => by
    have := mkFIs_get (ext := ext) l (i + 1) t
    simp only [mkFIs, List.getElem?_cons_succ]
    rw [show Nat.add i 1 = i + 1 from rfl, this, show i + 1 + t = i + (t + 1) by omega]

theorem cellsOf_rel {ρ : Ren} {z : Value} (h : (cellsOf (ofVal z)).all V.isOne = true) : RelL ρ (cellsOf (ofVal z)) z.cells.toList := by
  have hr := ofVal_rel (ρ := ρ) z
  cases hv : ofVal z with
  | agg cs =>
    rw [hv] at hr
    obtain ⟨x, rfl, _, hl⟩ := hr.agg_inv
    exact hl
  | tup cs => rw [hv] at h; exact absurd h (by simp [cellsOf, V.isOne])
  | undef => rw [hv] at h; exact absurd h (by simp [cellsOf, V.isOne])
  | _ =>
    rw [hv] at hr h
    have h1 := (one_of_isOne hr (by simpa [cellsOf] using h)).2
    rw [h1]
    exact .cons hr .nil

theorem info_at {t : TypeId} (h : t < P.types.size) : P.info? t = P.types[t]? := by
  unfold Tables.info?
  rw [if_pos h]

/-- What the tables' check tells of a type. -/
theorem ctx_ty {ext : Nat → Option Ext} {gl : Nat → Option (List V)} {drs : Drs} {t : Nat} {ti : TI} (h : (ctx0 P ext gl drs).ty t = some ti) : ∃ inf, P.types[t]? = some inf ∧ P.info? t = some inf ∧ tiOk P t inf = true ∧ ti = mkTI P t inf := by
  have h : ((mkTIs P P.types.toList 0)[t]?).join = some ti := h
  rw [mkTIs_get, Nat.zero_add] at h
  cases hi : P.types.toList[t]? with
  | none => rw [hi] at h; cases h
  | some inf =>
    rw [hi] at h
    have hi' : P.types[t]? = some inf := by rw [← Array.getElem?_toList]; exact hi
    have hlt : t < P.types.size := by
      rcases Nat.lt_or_ge t P.types.size with h' | h'
      · exact h'
      · rw [Array.getElem?_eq_none h'] at hi'; cases hi'
    refine ⟨inf, hi', by rw [info_at hlt]; exact hi', ?_⟩
    simp only [Option.bind_some] at h
    cases hok : tiOk P t inf with
    | false => rw [hok] at h; cases h
    | true =>
      rw [hok] at h
      simp only [cond, Option.some.injEq] at h
      exact ⟨rfl, h.symm⟩

theorem ctx_ok (ext : Nat → Option Ext) (gl : Nat → Option (List V)) (drs : Drs) : CtxOk P (ctx0 P ext gl drs) := by
  have key : ∀ t ti, (ctx0 P ext gl drs).ty t = some ti → ∃ inf z d, P.info? t = some inf ∧ inf.zero = some z ∧ P.underlying t = some d ∧ ti = mkTI P t inf ∧ V.isDef (ofVal z) = true ∧ (cellsOf (ofVal z)).all V.isOne = true ∧ (cellsOf (ofVal z)).length = inf.size ∧
      (aggD d = true ∨ inf.size = 1) ∧ ∀ fs, d = .struct fs → ∀ f ∈ fs.toList, (P.info? f.type).isSome = true := by
    intro t ti h
    obtain ⟨inf, h1, h2, h3, h4⟩ := ctx_ty h
    unfold tiOk at h3
    split at h3
    · rename_i z d hz hd
      obtain ⟨a1, h3⟩ := ifb_and.1 h3
      obtain ⟨a2, h3⟩ := ifb_and.1 h3
      obtain ⟨a3, h3⟩ := ifb_and.1 h3
      obtain ⟨a4, h3⟩ := ifb_and.1 h3
      refine ⟨inf, z, d, h2, hz, hd, h4, a1, a2, by rw [← lenL_eq]; exact Nat.eq_of_beq_eq_true a3, ?_, fun fs hfs f hf => ?_⟩
      · rcases ifb_true.1 a4 with ⟨h, _⟩ | ⟨_, h⟩
        · exact .inl h
        · exact .inr (Nat.eq_of_beq_eq_true h)
      · subst hfs
        exact List.all_eq_true.1 h3 f hf
    · exact absurd h3 (by simp)
  refine ⟨fun t ti h => ?_, fun t ti h => ?_, fun t ti fs h hd f hf => ?_, fun t ti h ha => ?_⟩
  · obtain ⟨inf, z, d, h1, h2, h3, rfl, h5, h6, h7, h8, h9⟩ := key t ti h
    refine ⟨inf, h1, rfl, rfl, by simp [mkTI, h3], z, h2, fun ρ => ?_, fun ρ => ?_, ?_, ?_, ?_⟩
    · show RelV ρ (match inf.zero with | some z => ofVal z | none => tup0) z
      rw [h2]; exact ofVal_rel z
    · show RelL ρ (cellsOf (match inf.zero with | some z => ofVal z | none => tup0)) z.cells.toList
      rw [h2]; exact cellsOf_rel h6
    · show ∀ v ∈ cellsOf (match inf.zero with | some z => ofVal z | none => tup0), v.isOne = true
      rw [h2]; exact List.all_eq_true.1 h6
    · show (cellsOf (match inf.zero with | some z => ofVal z | none => tup0)).length = inf.size
      rw [h2]; exact h7
    · show (match inf.zero with | some z => ofVal z | none => tup0) ≠ .undef
      rw [h2]
      intro he
      dsimp only at he
      rw [he] at h5
      exact absurd h5 (by simp [V.isDef])
  · obtain ⟨inf, z, d, h1, h2, h3, rfl, _⟩ := key t ti h
    exact ⟨rfl, rfl⟩
  · obtain ⟨inf, z, d, h1, h2, h3, rfl, h5, h6, h7, h8, h9⟩ := key t ti h
    have hd : (P.underlying t).getD .invalid = .struct fs := hd
    rw [h3] at hd
    exact h9 fs hd f hf
  · obtain ⟨inf, z, d, h1, h2, h3, rfl, h5, h6, h7, h8, h9⟩ := key t ti h
    have ha : aggD ((P.underlying t).getD .invalid) = false := ha
    rw [h3] at ha
    rcases h8 with h | h
    · exact absurd h (by rw [show aggD d = false from ha]; simp)
    · exact h

theorem ctx_nt (ext : Nat → Option Ext) (gl : Nat → Option (List V)) (drs : Drs) {f : Nat} {fn : Func} (h : P.funcs[f]? = some fn) : ntOf (ctx0 P ext gl drs) f = fn.ntmps := by
  have : (ctx0 P ext gl drs).fn f = some { nt := fn.ntmps, res := fn.results.toList, body := fn.body, ext := ext (0 + f) } := by
    show ((mkFIs ext P.funcs.toList 0)[f]?).join = _
    rw [mkFIs_get, Array.getElem?_toList, h]; rfl
  unfold ntOf
  rw [this]

/-- All regions' tables of a program. -/
noncomputable def drawsAll (p : Program) (C : Ctx) : Bool := go p.funcs.toList 0
  where
  go : List Func → Nat → Bool
    | [], _ => true
    | f :: r, i => (match f.body with | some b => drawsOk C i b | none => true) && go r (i + 1)
theorem drawsAll_go {C : Ctx} : ∀ {l : List Func} {i : Nat}, drawsAll.go C l i = true → ∀ (f : Nat) (fn : Func) (b : Code), l[f]? = some fn → fn.body = some b → drawsOk C (i + f) b = true
  | [], i, h, f, fn, b, hf, hb => by simp at hf
  | x :: l, i, h, f, fn, b, hf, hb => by
    simp only [drawsAll.go, Bool.and_eq_true] at h
    cases f with
    | zero =>
      simp only [List.getElem?_cons_zero, Option.some.injEq] at hf
      subst hf
      have := h.1
      rw [hb] at this
      exact this
    | succ f =>
      have := drawsAll_go h.2 f fn b (by simpa using hf) hb
      rw [show i + (f + 1) = i + 1 + f by omega]; exact this
theorem opCls_ext {ext ext' : Nat → Option Ext} {gl : Nat → Option (List V)} {drs : Drs} (o : Op) : opCls (ctx0 P ext gl drs) o = opCls (ctx0 P ext' gl drs) o := by
  cases o <;> rfl
theorem clsOf_ext {ext ext' : Nat → Option Ext} {gl : Nat → Option (List V)} {drs : Drs} (all : List Oper) (i : Nat) : clsOf (ctx0 P ext gl drs) all i = clsOf (ctx0 P ext' gl drs) all i := opCls_ext _
theorem drawChk_ext {ext ext' : Nat → Option Ext} {gl : Nat → Option (List V)} {drs : Drs} {ops : Array Oper} {A : List (List Nat)} : ∀ (l : List (Nat × List Nat)) (done : List Nat), drawChk (ctx0 P ext gl drs) ops A done l = drawChk (ctx0 P ext' gl drs) ops A done l
  | [], done => rfl
  | (i, ck) :: r, done => by
    simp only [drawChk, clsOf_ext (ext := ext) (ext' := ext')]
    rw [drawChk_ext (ext := ext) (ext' := ext') r (i :: done)]
theorem drawAll_ext {ext ext' : Nat → Option Ext} {gl : Nat → Option (List V)} {drs : Drs} {nt : Nat} {ops : Array Oper} {A : List (List Nat)} {l : List (Nat × List Nat)} : drawAll (ctx0 P ext gl drs) nt ops A l = drawAll (ctx0 P ext' gl drs) nt ops A l := by
  unfold drawAll
  rw [drawChk_ext (ext' := ext')]
theorem drawsOk_ext {ext ext' : Nat → Option Ext} {gl : Nat → Option (List V)} {drs : Drs} {f : Nat} : ∀ c : Code, drawsOk (ctx0 P ext gl drs) f c = true → drawsOk (ctx0 P ext' gl drs) f c = true
  | .region id ops true, h => by
    have hnt : ntOf (ctx0 P ext gl drs) f = ntOf (ctx0 P ext' gl drs) f := by
      have : ∀ e, ntOf (ctx0 P e gl drs) f = match P.funcs[f]? with | some fn => fn.ntmps | none => 0 := fun e => by
        cases hf : P.funcs[f]? with
        | some fn => exact ctx_nt e gl drs hf
        | none =>
          unfold ntOf
          have : (ctx0 P e gl drs).fn f = none := by
            show ((mkFIs e P.funcs.toList 0)[f]?).join = _
            rw [mkFIs_get, Array.getElem?_toList, hf]; rfl
          rw [this]
      rw [this, this]
    simp only [drawsOk] at h ⊢
    rw [← hnt]
    have e : (ctx0 P ext gl drs).dr f id = (ctx0 P ext' gl drs).dr f id := rfl
    rw [← e]
    cases hd : (ctx0 P ext gl drs).dr f id with
    | none => rfl
    | some l =>
      rw [hd] at h
      dsimp only at h ⊢
      rw [← drawAll_ext (ext := ext)]
      exact h
  | .region id ops false, h => rfl
  | .seq a b, h => by simp only [drawsOk, Bool.and_eq_true] at h ⊢; exact ⟨drawsOk_ext a h.1, drawsOk_ext b h.2⟩
  | .cond _ a b, h => by simp only [drawsOk, Bool.and_eq_true] at h ⊢; exact ⟨drawsOk_ext a h.1, drawsOk_ext b h.2⟩
  | .block _ b, h => by simp only [drawsOk] at h ⊢; exact drawsOk_ext b h
  | .loop b, h => by simp only [drawsOk] at h ⊢; exact drawsOk_ext b h
  | .rangeFunc _ _ a b, h => by simp only [drawsOk, Bool.and_eq_true] at h ⊢; exact ⟨drawsOk_ext a h.1, drawsOk_ext b h.2⟩
  | .scope b, h => by simp only [drawsOk] at h ⊢; exact drawsOk_ext b h
  | .skip, _ => rfl
  | .exit _, _ => rfl
  | .label _, _ => rfl
  | .goto _, _ => rfl
  | .ret, _ => rfl
  | .refuse _, _ => rfl

/-- All that is asked of the tables. -/
theorem prog_ok {ext ext0 : Nat → Option Ext} {gl : Nat → Option (List V)} {drs : Drs} (hm : P.follows .mixedOrders = true) (hn : (P.funcs.toList.all fun fn => !(fn.name == "runtime.NumGoroutine")) = true)
    (hd : withCtx P ext0 gl drs (drawsAll P) = true) (he : ∀ f e, ext f = some e → ExtSound P (ctx0 P ext gl drs) e f) : ProgOk P (ctx0 P ext gl drs) := by
  have hC := ctx_ok (P := P) ext gl drs
  have hfn : ∀ f fi, (ctx0 P ext gl drs).fn f = some fi → ∃ fn, P.funcs[f]? = some fn ∧ fi = { nt := fn.ntmps, res := fn.results.toList, body := fn.body, ext := ext f } := by
    intro f fi h
    have h : ((mkFIs ext P.funcs.toList 0)[f]?).join = some fi := h
    rw [mkFIs_get, Nat.zero_add, Array.getElem?_toList] at h
    cases hf : P.funcs[f]? with
    | none => rw [hf] at h; cases h
    | some fn =>
      rw [hf] at h
      simp only [Option.map_some, Option.some.injEq] at h
      exact ⟨fn, rfl, h.symm⟩
  refine { toCtxOk := hC, fn := fun f fi h => ?_, nt := fun f fn h => ctx_nt ext gl drs h, draw := fun f fn b h hb => ?_, ext := fun f fi e h hx => ?_, met := fun t ms h => ?_, mixed := hm }
  · obtain ⟨fn, h1, rfl⟩ := hfn f fi h
    refine ⟨fn, h1, rfl, rfl, rfl, ?_⟩
    have := List.all_eq_true.1 hn fn (by rw [← Array.getElem?_toList] at h1; exact List.mem_of_getElem? h1)
    simpa using this
  · have := drawsAll_go (withCtx_true hd) f fn b (by rw [Array.getElem?_toList]; exact h) hb
    rw [Nat.zero_add] at this
    exact drawsOk_ext b this
  · obtain ⟨fn, h1, rfl⟩ := hfn f fi h
    exact he f e hx
  · have h : (P.types[t]?).map (·.methods.toList) = some ms := h
    cases hi : P.types[t]? with
    | none => rw [hi] at h; cases h
    | some inf =>
      rw [hi] at h
      simp only [Option.map_some, Option.some.injEq] at h
      have hlt : t < P.types.size := by
        rcases Nat.lt_or_ge t P.types.size with h' | h'
        · exact h'
        · rw [Array.getElem?_eq_none h'] at hi; cases hi
      exact ⟨inf, by rw [info_at hlt]; exact hi, h⟩
end
end Go.Ev
end

section
/- The sorted keys of a map: what the evaluator does, out of a contract of the function. -/
namespace Go.Ev
open Go Go.Maps Go.MapKept
open Go.RowKit (Below)
open Go.WideElems (Fit rd rg)
set_option linter.unusedVariables false
set_option linter.unusedSimpArgs false
section
variable {P : Program} {C : Ctx} {ρ : Ren}

/-- (H1') A new object among new blocks. -/
theorem HeapRel.grown {h h' : Heap} {w w' : World} {o : O} {B : Blk} (r : HeapRel P C ρ h w)
    (hw : Below w.heap.size w w') (hb : w.heap.size ≤ B.b) (hb2 : B.b < w'.heap.size) (hn : h'.nx = h.nx + 1) (hg : ∀ j, hget j h' = if j = h.nx then o else hget j h)
    (ho : ObjRel P (ext1 ρ h.nx B) o B w'.heap[B.b]?) :
    HeapRel P C (ext1 ρ h.nx B) h' w' ∧ Le ρ h w (ext1 ρ h.nx B) h' w' := by
  unfold ext1 at ho ⊢
  have hren : ∀ i D, ρ i = some D → (if i = h.nx then some B else ρ i) = some D := fun i D hi => by
    rw [if_neg (by have := (r.dom i D hi).1; omega)]; exact hi
  have hold : ∀ b, b < w.heap.size → w'.heap[b]? = w.heap[b]? := hw.block
  have hs := hw.size
  refine ⟨⟨fun i D hi => ?_, fun i D hi => ?_, fun i j D E hi hj li lj he => ?_, fun g cs hgl => ?_⟩, ⟨hren, hs, fun b hb' hm => ⟨hold b hb', ?_⟩, by omega, fun i hi h0 => ⟨by rw [hg, if_neg (by omega)], by rw [if_neg (by omega)]; exact h0⟩, hw.os, hw.output⟩⟩
  · by_cases h1 : i = h.nx
    · simp only [h1, if_true] at hi; cases hi; exact ⟨by omega, hb2⟩
    · simp only [h1, if_false] at hi
      have := r.dom i D hi
      exact ⟨by omega, by omega⟩
  · by_cases h1 : i = h.nx
    · simp only [h1, if_true] at hi; cases hi
      rw [hg, if_pos h1]
      exact ho
    · simp only [h1, if_false] at hi
      rw [hg, if_neg h1, hold _ (r.dom i D hi).2]
      exact (r.obj i D hi).mono hren
  · by_cases h1 : i = h.nx <;> by_cases h2 : j = h.nx
    · rw [h1, h2]
    · simp only [h1, h2, if_true, if_false] at hi hj; cases hi
      have := (r.dom j E hj).2; omega
    · simp only [h1, h2, if_true, if_false] at hi hj; cases hj
      have := (r.dom i D hi).2; omega
    · simp only [h1, h2, if_false] at hi hj
      rw [hg, if_neg h1] at li; rw [hg, if_neg h2] at lj
      exact r.inj i j D E hi hj li lj he
  · obtain ⟨h1, xs, t, fr, h2, h3⟩ := r.glob g cs hgl
    have hgs : g < w.heap.size := by
      rcases Nat.lt_or_ge g w.heap.size with h | h
      · exact h
      · rw [Array.getElem?_eq_none h] at h2; cases h2
    refine ⟨fun i D hi => ?_, xs, t, fr, by rw [hold g hgs]; exact h2, fun j v hv => let ⟨x, a, b⟩ := h3 j v hv; ⟨x, a, b.mono hren⟩⟩
    by_cases h1' : i = h.nx
    · simp only [h1', if_true] at hi; cases hi; omega
    · simp only [h1', if_false] at hi; exact h1 i D hi
  · rintro ⟨i, D, hi, he, hl⟩
    by_cases h1' : i = h.nx
    · simp only [h1', if_true] at hi; cases hi; omega
    · simp only [h1', if_false] at hi
      rw [hg, if_neg h1'] at hl
      exact hm ⟨i, D, hi, he, hl⟩

/-- Nothing of what lay before has turned, and nothing bears a name. -/
theorem HeapRel.below {h : Heap} {w w' : World} (r : HeapRel P C ρ h w) (hw : Below w.heap.size w w') : HeapRel P C ρ h w' ∧ Le ρ h w ρ h w' := by
  have hold : ∀ b, b < w.heap.size → w'.heap[b]? = w.heap[b]? := hw.block
  have hs := hw.size
  refine ⟨⟨fun i D hi => ⟨(r.dom i D hi).1, by have := (r.dom i D hi).2; omega⟩, fun i D hi => by rw [hold _ (r.dom i D hi).2]; exact r.obj i D hi, r.inj, fun g cs hgl => ?_⟩, fun _ _ h => h, hs, fun b hb hm => ⟨hold b hb, hm⟩, Nat.le_refl _, fun _ _ h => ⟨rfl, h⟩, hw.os, hw.output⟩
  obtain ⟨h1, xs, t, fr, h2, h3⟩ := r.glob g cs hgl
  have hgs : g < w.heap.size := by
    rcases Nat.lt_or_ge g w.heap.size with h | h
    · exact h
    · rw [Array.getElem?_eq_none h] at h2; cases h2
  exact ⟨h1, xs, t, fr, by rw [hold g hgs]; exact h2, h3⟩

/-- A new row among new blocks. -/
theorem grown_row {hp : Heap} {w w' : World} {el m g s z : Nat} {zs cs : List V} {xs : List Value} {cur : Array Value} {k : Nat → Heap → Bool} (hH : HeapRel P C ρ hp w) (hr : RelL ρ cs xs) (h1 : ∀ v ∈ cs, v.isOne = true) (hm : cs.length = m) (hz : P.cellsOf el = z)
    (hw : Below w.heap.size w w') (hb : w.heap.size ≤ g) (hcur : w'.heap[g]? = some (.cells cur el (0, 0))) (hsz : cur.size = s * z) (hmc : m ≤ cur.size) (hpre : ∀ j, j < m → cur[j]? = xs[j]?) (h : freeRow el m 0 zs cs hp k = true) :
    ∃ hp', k hp.nx hp' = true ∧ HeapRel P C (ext1 ρ hp.nx ⟨g, s, z⟩) hp' w' ∧ Le ρ hp w (ext1 ρ hp.nx ⟨g, s, z⟩) hp' w' := by
  unfold freeRow at h
  obtain ⟨c, h, hc⟩ := emptyC_spec h
  obtain ⟨c', h, hc'⟩ := layC_spec h
  obtain ⟨hp', hk, hn, hg⟩ := hnew_spec h
  have hren : ∀ i D, ρ i = some D → ext1 ρ hp.nx ⟨g, s, z⟩ i = some D := fun i D hi => by
    unfold ext1
    rw [if_neg (by have := (hH.dom i D hi).1; omega)]; exact hi
  have hxs : xs.length = m := by rw [← hr.1]; exact hm
  have hlt : g < w'.heap.size := by
    rcases Nat.lt_or_ge g w'.heap.size with h | h
    · exact h
    · rw [Array.getElem?_eq_none h] at hcur; cases hcur
  refine ⟨hp', hk, hH.grown hw hb hlt hn hg (o := .row el m 0 false zs c') ?_⟩
  show ObjRel P (ext1 ρ hp.nx ⟨g, s, z⟩) (.row el m 0 false zs c') ⟨g, s, z⟩ w'.heap[g]?
  rw [hcur]
  refine ⟨cur, (0, 0), rfl, hsz, hz, hmc, fun h => by simp at h, fun j _ _ => by simp, fun j hj => ?_⟩
  have hj1 : j < cs.length := by omega
  have hj2 : j < xs.length := by omega
  have hv1 := h1 _ (List.getElem_mem hj1)
  refine ⟨cs[j], xs[j], cellV_set ?_ (fun he => by rw [he] at hv1; simp [V.isOne] at hv1), ?_, hv1, (hr.2 j _ _ (List.getElem?_eq_getElem hj1) (List.getElem?_eq_getElem hj2)).mono hren⟩
  · rw [hc' j, if_pos (by omega)]
    simp [hj1]
  · rw [hpre j hj, List.getElem?_eq_getElem hj2]

/-! The plain part. -/

theorem memN_mem {x : Nat} {l : List Nat} (h : memN x l = true) : x ∈ l := by
  induction l with
  | nil => exact absurd h Bool.false_ne_true
  | cons y t ih =>
    rcases ifb_true.1 (show ifb (Nat.beq x y) true (memN x t) = true from h) with ⟨h1, _⟩ | ⟨_, h1⟩
    · rw [Nat.eq_of_beq_eq_true h1]; exact List.mem_cons_self
    · exact List.mem_cons_of_mem _ (ih h1)

/-- Rising numbers, from a on, below c. -/
def Rising : Nat → Nat → List Nat → Prop
  | a, c, [] => a ≤ c
  | a, c, x :: r => a ≤ x ∧ Rising (x + 1) c r

theorem keysI_spec {es : List (V × V × Nat)} {c a : Nat} {k : List Nat → Bool} (h : keysI es c a k = true) :
    ∃ ks, k ks = true ∧ es.map (·.1) = ks.map V.num ∧ Rising a c (es.map (·.2.2)) := by
  induction es generalizing a k with
  | nil =>
    obtain ⟨h1, h2⟩ := ifb_and.1 (show ifb (Nat.ble a c) (k []) false = true from h)
    exact ⟨[], h2, rfl, Nat.le_of_ble_eq_true h1⟩
  | cons x r ih =>
    obtain ⟨q, y, b⟩ := x
    obtain ⟨h1, h2⟩ := ifb_and.1 (show ifb (Nat.ble a b) (V.onNum q (fun n => keysI r c (b + 1) (fun l => k (n :: l)))) false = true from h)
    obtain ⟨n, rfl, h3⟩ := V.onNum_true.1 h2
    obtain ⟨ks, hk, h4, h5⟩ := ih h3
    exact ⟨n :: ks, hk, by simp only [List.map_cons, h4], ⟨Nat.le_of_ble_eq_true h1, h5⟩⟩

theorem insN_spec {x : Nat} {l : List Nat} {k : List Nat → Bool} (h : insN x l k = true) : ∃ l', k l' = true ∧ l'.Perm (x :: l) := by
  induction l generalizing k with
  | nil => exact ⟨[x], h, .refl _⟩
  | cons y t ih =>
    rcases ifb_true.1 (show ifb (Nat.ble x y) (k (x :: y :: t)) (insN x t (fun l => k (y :: l))) = true from h) with ⟨_, h1⟩ | ⟨_, h1⟩
    · exact ⟨_, h1, .refl _⟩
    · obtain ⟨l', hk, hp⟩ := ih h1
      exact ⟨y :: l', hk, (hp.cons y).trans (.swap _ _ _)⟩
theorem sortN_spec {l : List Nat} {k : List Nat → Bool} (h : sortN l k = true) : ∃ l', k l' = true ∧ l'.Perm l := by
  induction l generalizing k with
  | nil => exact ⟨[], h, .refl _⟩
  | cons x r ih =>
    obtain ⟨l1, h1, p1⟩ := ih (show sortN r (fun l => insN x l k) = true from h)
    obtain ⟨l2, h2, p2⟩ := insN_spec h1
    exact ⟨l2, h2, p2.trans (p1.cons x)⟩
theorem riseN_spec {l : List Nat} {a : Nat} {k : Bool} (h : riseN l a k = true) : k = true ∧ (∀ x ∈ l, a ≤ x) ∧ l.Pairwise (· < ·) := by
  induction l generalizing a with
  | nil => exact ⟨h, by simp, .nil⟩
  | cons x r ih =>
    obtain ⟨h1, h2⟩ := ifb_and.1 (show ifb (Nat.ble a x) (riseN r (x + 1) k) false = true from h)
    have h1 := Nat.le_of_ble_eq_true h1
    obtain ⟨h3, h4, h5⟩ := ih h2
    refine ⟨h3, fun y hy => ?_, .cons (fun y hy => ?_) h5⟩
    · rcases List.mem_cons.1 hy with rfl | hy
      · exact h1
      · have := h4 y hy; omega
    · have := h4 y hy; omega
theorem Rising.spec {a c : Nat} {l : List Nat} (h : Rising a c l) : (∀ x ∈ l, a ≤ x ∧ x < c) ∧ l.Nodup ∧ a ≤ c := by
  induction l generalizing a with
  | nil => exact ⟨by simp, .nil, h⟩
  | cons x r ih =>
    obtain ⟨h1, h2⟩ := h
    obtain ⟨h3, h4, h5⟩ := ih h2
    refine ⟨fun y hy => ?_, List.nodup_cons.2 ⟨fun hx => ?_, h4⟩, by omega⟩
    · rcases List.mem_cons.1 hy with rfl | hy
      · omega
      · have := h3 y hy; omega
    · have := h3 x hx; omega

theorem insert_perm {H : Type} (x : Lit × DataW H) (l : List (Lit × DataW H)) : (DataW.insert x l).Perm (x :: l) := by
  induction l with
  | nil => exact .refl _
  | cons y r ih =>
    unfold DataW.insert
    split
    · exact .refl _
    · exact (ih.cons y).trans (.swap _ _ _)
theorem foldr_insert_perm {H : Type} (l : List (Lit × DataW H)) : (l.foldr DataW.insert []).Perm l := by
  induction l with
  | nil => exact .refl _
  | cons x r ih => exact (insert_perm x _).trans (ih.cons x)

/-- The machine's contract: slices.Sorted of a map's keys. -/
structure SortedAt (P : Program) (f g : FuncId) (e : TypeId) : Prop where
  key : P.underlying e = some (.int .i64)
  one : P.cellsOf e = 1
  enters : ∀ args w, (callFunc f args).run P w = .ok (.enter f args) w
  full : ∀ (b nn Bm : Nat) (D0 : DataW Unit) (R : Value → Option (DataW Unit × List MemPlace)) (w : World), w.ownsMap P e R b nn D0 → Maps.size D0 ≤ 65536 → Bm < w.heap.size → w.cell? ⟨Bm, 0, none⟩ = some (.map (some b)) →
    Calls P f #[.func (.func g) #[] #[.pointer (some ⟨Bm, 0, none⟩)]] w fun x w' => ∃ (v : Value) (ss : List Int), x = .returned v ∧ ss.Perm (intKeys D0) ∧
      w'.ownsRow w.heap.size e 1 v ss.length ((ss.mergeSort (fun x y => decide (x ≤ y))).map encZ) ∧ (v = .slice none 0 0 ↔ ss = []) ∧ Below w.heap.size w w'
  none : ∀ (Bm : Nat) (w : World), Bm < w.heap.size → w.cell? ⟨Bm, 0, none⟩ = some (.map none) →
    Calls P f #[.func (.func g) #[] #[.pointer (some ⟨Bm, 0, none⟩)]] w fun x w' => x = .returned (.slice none 0 0) ∧ Below w.heap.size w w'

theorem map_entries {h : Heap} {w : World} {i : Nat} {B : Blk} {es : List (V × V × Nat)} {c : Nat} {ks : List Nat} {e : TypeId} (hH : HeapRel P C ρ h w) (hB : ρ i = some B) (hg : hget i h = .map es c)
    (hk : es.map (·.1) = ks.map V.num) (hr : Rising 0 c (es.map (·.2.2))) (hnd : ks.Nodup) (he : P.underlying e = some (.int .i64)) (hl : ks.length ≤ 65536) :
    ∃ D0 : DataW Unit, w.ownsMap P e (fun _ => some (.nil, [])) B.b ks.length D0 ∧ Maps.size D0 = ks.length ∧ (intKeys D0).Perm (ks.map (fun n : Nat => (n : Int))) := by
  have hO := hH.obj i B hB
  rw [hg] at hO
  obtain ⟨ms, h1, h2, h3⟩ := hO
  have hlen : es.length = ks.length := by simpa using congrArg List.length hk
  have hent : ∀ (j : Nat) m, ms[j]? = some m → ∃ (n : Nat), ks[j]? = some n ∧ n ≤ maxI ∧ m.key = .int .i64 (n : Int) ∧ (es.map (·.2.2))[j]? = some m.born := by
    intro j m hm
    have hj : j < ms.size := by
      rcases Nat.lt_or_ge j ms.size with h | h
      · exact h
      · rw [Array.getElem?_eq_none h] at hm; cases hm
    have hj1 : j < es.length := by omega
    have hj2 : j < ks.length := by omega
    have hE := h3 j es[j] m (List.getElem?_eq_getElem hj1) hm
    have hkey : (es[j]).1 = V.num ks[j] := by
      have := congrArg (·[j]?) hk
      simpa [hj1, hj2] using this
    have hK := hE.key
    rw [hkey] at hK
    refine ⟨ks[j], List.getElem?_eq_getElem hj2, ?_, ?_, by simp [hj1, hE.born]⟩
    · generalize m.key = mk at hK
      cases hK; assumption
    · generalize m.key = mk at hK
      cases hK; rfl
  have hborn : ms.toList.map (·.born) = es.map (·.2.2) := by
    apply List.ext_getElem?
    intro j
    rcases hm : ms[j]? with _ | m
    · have : ms.size ≤ j := by
        rcases Nat.lt_or_ge j ms.size with h | h
        · rw [Array.getElem?_eq_getElem h] at hm; cases hm
        · exact h
      rw [List.getElem?_eq_none (by simpa using this), List.getElem?_eq_none (by simp; omega)]
    · obtain ⟨n, _, _, _, h4⟩ := hent j m hm
      rw [h4]; simp [hm]
  have hkeys : ms.toList.map (·.key) = ks.map (fun n : Nat => Value.int .i64 (n : Int)) := by
    apply List.ext_getElem?
    intro j
    rcases hm : ms[j]? with _ | m
    · have : ms.size ≤ j := by
        rcases Nat.lt_or_ge j ms.size with h | h
        · rw [Array.getElem?_eq_getElem h] at hm; cases hm
        · exact h
      rw [List.getElem?_eq_none (by simpa using this), List.getElem?_eq_none (by simp; omega)]
    · obtain ⟨n, h4, _, h5, _⟩ := hent j m hm
      simp [hm, h4, h5]
  obtain ⟨r1, r2, _⟩ := hr.spec
  have hrd : ∀ m ∈ ms.toList, ∃ n : Nat, m.key = .int .i64 (n : Int) ∧ rd P e (fun _ => some ((.nil : DataW Unit), [])) m = some (.int .i64 (n : Int), .nil) := by
    intro m hm
    obtain ⟨j, hj, rfl⟩ := List.getElem_of_mem hm
    obtain ⟨n, _, h4, h5, _⟩ := hent j ms[j] (Array.getElem?_eq_getElem (by simpa using hj))
    have hw : (Lit.int .i64 (n : Int)).wf = true := by
      have e1 : IntKind.i64.min = -9223372036854775808 := by decide
      have e2 : IntKind.i64.max = 9223372036854775807 := by decide
      unfold maxI at h4
      simp [Lit.wf, e1, e2]
      omega
    have hko := keyOf_int_mk he hw
    refine ⟨n, by simpa using h5, ?_⟩
    simp only [Array.getElem_toList] at h5 ⊢
    simp [rd, h5, hko]
  refine ⟨.map ((ms.toList.map (rg P e _)).foldr DataW.insert []), ⟨ms, c, h1, ⟨by simp [maxLen]; omega, ⟨fun m hm => ?_, by rw [hborn]; exact r2, ?_⟩, fun m hm => let ⟨n, _, h⟩ := hrd m hm; ⟨_, h⟩⟩, by omega, rfl⟩, ?_, ?_⟩
  · have : m.born ∈ es.map (·.2.2) := by rw [← hborn]; exact List.mem_map_of_mem hm
    exact (r1 _ this).2
  · rw [hkeys]
    exact List.pairwise_map.2 (hnd.imp fun hne he => hne (by injection he with _ he; omega))
  · rw [Maps.size_eq, (foldr_insert_perm _).length_eq]
    simp; omega
  · have hp : (intKeys (DataW.map ((ms.toList.map (rg P e (fun _ => some ((.nil : DataW Unit), [])))).foldr DataW.insert []))).Perm ((ms.toList.map (rg P e (fun _ => some ((.nil : DataW Unit), [])))).map fun p => intOf p.1) := (foldr_insert_perm _).map _
    refine hp.trans (.of_eq ?_)
    rw [List.map_map]
    have h6 : ms.toList.map (fun m => intOf (rg P e (fun _ => some ((.nil : DataW Unit), [])) m).1) = (ms.toList.map (·.key)).map (fun v => match v with | .int _ n => n | _ => 0) := by
      rw [List.map_map]
      refine List.map_congr_left fun m hm => ?_
      obtain ⟨n, h4, h5⟩ := hrd m hm
      simp [rg, h5, h4, intOf]
    exact h6.trans (by rw [hkeys, List.map_map]; rfl)

theorem keys_nums {ks : List Nat} (h : ∀ n ∈ ks, n ≤ maxI) : RelL ρ (ks.map V.num) (ks.map fun n : Nat => encZ (n : Int)) :=
  ⟨by simp, fun j u v hu hv => by
    rcases hn : ks[j]? with _ | n
    · simp [hn] at hu
    · simp [hn] at hu hv
      subst hu; subst hv
      exact .num n (h n (List.mem_of_getElem? hn))⟩

theorem ext_sorted {f : FuncId} {e : TypeId} {fs : List Nat} (hf : ∀ g ∈ fs, SortedAt P f g e) : ExtSound P C (.sorted e fs) f := by
  intro args h k ρ xs w hx hr hH
  obtain ⟨v, x, hl, hv, hx⟩ := argL1 hr hx
  rcases V.onFn_true.1 hx with ⟨g, a, b, rfl, hx⟩ | ⟨i, _, hx⟩
  case inr => exact absurd hx Bool.false_ne_true
  obtain ⟨hm, hx⟩ := ifb_and.1 hx
  have hS := hf g (memN_mem hm)
  cases hv with | fn _ _ _ x y ha hb ra rb =>
  obtain ⟨ha0, hx⟩ := argL0 (ρ := ρ) (l := x.toList) ⟨by simpa using ha, by simpa using ra⟩ hx
  obtain ⟨p, q, hq, hp, hx⟩ := argL1 (ρ := ρ) (l := y.toList) ⟨by simpa using hb, by simpa using rb⟩ hx
  obtain rfl : x = #[] := arr_of ha0
  obtain rfl : y = #[q] := arr_of hq
  obtain ⟨j, o, B, hB, rfl, hx⟩ := onPtr_rel hp hx
  obtain ⟨ho, hx⟩ := ifb_and.1 hx
  obtain rfl : o = 0 := Nat.eq_of_beq_eq_true ho
  obtain ⟨m, z, hx, hmz, _, hc⟩ := rowGet_rel hH hB hx
  have hBm := (hH.dom j B hB).2
  obtain rfl : xs = #[.func (.func g) #[] #[.pointer (some ⟨B.b, 0, none⟩)]] := arr_of hl
  refine .inr ⟨hS.enters _ _, (callsIn_wide (n := 0)).2 ?_⟩
  rcases V.onMap_true.1 hx with ⟨i, rfl, hx⟩ | ⟨rfl, hx⟩
  · obtain ⟨D, hD, rfl⟩ : ∃ D, ρ i = some D ∧ z = .map (some D.b) := by
      cases hmz with | map _ D hD => exact ⟨D, hD, rfl⟩
    obtain ⟨es, c, hg, hx⟩ := O.onMap_true.1 hx
    obtain ⟨ks, hx, hk, hri⟩ := keysI_spec hx
    rcases onList_true.1 hx with ⟨rfl, hx⟩ | ⟨k0, kt, rfl, hx⟩
    · obtain ⟨D0, hown, hsz, hper⟩ := map_entries (e := e) hH hD hg hk hri .nil hS.key (by simp)
      refine (hS.full D.b _ B.b D0 _ w hown (by rw [hsz]; simp) hBm hc).mono ?_
      rintro e' w' ⟨v, ss, rfl, hp, hrow, hnil, hbl⟩
      obtain rfl : ss = [] := (hp.trans hper).eq_nil
      obtain rfl := hnil.2 rfl
      obtain ⟨hH', hL⟩ := hH.below hbl
      exact ⟨_, rfl, .nils, h, ρ, hx, .nils, hH', hL⟩
    · obtain ⟨ss, hx, hp1⟩ := sortN_spec hx
      obtain ⟨hx, _, hpw⟩ := riseN_spec hx
      rw [frcApp_eq, List.append_nil, frc_eq, lenL_eq] at hx
      obtain ⟨hn, hx⟩ := ifb_and.1 hx
      have hn := Nat.le_of_ble_eq_true hn
      rw [List.length_map] at hn hx
      have hnd : (k0 :: kt).Nodup := hp1.nodup_iff.1 (hpw.imp fun h => Nat.ne_of_lt h)
      have hlen : ss.length = (k0 :: kt).length := hp1.length_eq
      obtain ⟨D0, hown, hsz, hper⟩ := map_entries (e := e) hH hD hg hk hri hnd hS.key (by omega)
      refine (hS.full D.b _ B.b D0 _ w hown (by rw [hsz]; omega) hBm hc).mono ?_
      rintro e' w' ⟨v, is, rfl, hp, hrow, hnil, hbl⟩
      have hle : ∀ n ∈ ss, n ≤ maxI := by
        intro n hn
        have : n ∈ (k0 :: kt) := hp1.mem_iff.1 hn
        have hv : V.num n ∈ es.map (·.1) := by rw [hk]; exact List.mem_map_of_mem this
        obtain ⟨y, hy, he⟩ := List.mem_map.1 hv
        obtain ⟨t, ht, rfl⟩ := List.getElem_of_mem hy
        have hO := hH.obj i D hD
        rw [hg] at hO
        obtain ⟨ms, _, h2, h3⟩ := hO
        have := (h3 t es[t] (ms[t]'(by omega)) (List.getElem?_eq_getElem ht) (Array.getElem?_eq_getElem (by omega))).key
        rw [he] at this
        generalize (ms[t]'(by omega)).key = mk at this
        cases this; assumption
      have hper2 : is.Perm (ss.map fun n : Nat => (n : Int)) := hp.trans (hper.trans (hp1.symm.map _))
      have hsort : is.mergeSort (fun x y => decide (x ≤ y)) = ss.map fun n : Nat => (n : Int) := by
        have e0 : (fun x y : Int => decide (x ≤ y)) = Go.leI := rfl
        rw [e0, mergeSort_of_perm_i hper2]
        refine List.mergeSort_of_pairwise ?_
        refine List.pairwise_map.2 (hpw.imp fun h => ?_)
        simp only [Go.leI, decide_eq_true_eq]
        omega
      rw [hsort, List.map_map] at hrow
      have hil : is.length = ss.length := by simpa using hper2.length_eq
      rw [hil] at hrow
      rcases hrow.2 with ⟨_, hz⟩ | ⟨gb, cap, cur, rfl, hbase, hgb, r1, r2, r3, r4⟩
      · simp [hlen] at hz
      obtain ⟨h', hk', hH', hL⟩ := grown_row (s := cap) (z := 1) hH (keys_nums hle) (by intro v hv; obtain ⟨n, _, rfl⟩ := List.mem_map.1 hv; rfl) (by simp) hS.one hbl hbase hgb r3 (by omega) (fun t ht => by
        have := congrArg (·[t]?) r4
        simp only [List.getElem?_take] at this
        rw [if_pos (by omega)] at this
        rw [Array.getElem?_toList] at this
        exact this) hx
      exact ⟨_, rfl, .sl h.nx 0 ss.length (.less 0 1), h', _, hk', .sl _ _ _ _ _ ⟨gb, cap, 1⟩ (by simp [ext1]) ⟨rfl, by simp, rfl⟩ (by simpa using r1), hH', hL⟩
  · obtain rfl : z = .map none := by cases hmz; rfl
    refine (hS.none B.b w hBm hc).mono ?_
    rintro e' w' ⟨rfl, hbl⟩
    obtain ⟨hH', hL⟩ := hH.below hbl
    exact ⟨_, rfl, .nils, h, ρ, hx, .nils, hH', hL⟩
end
end Go.Ev
end

section
/-
  Small lemmas on worlds for the walks: what a call leaves as it was.
-/
namespace Go.Proofs.Cw
open Go.RowKit

theorem bel_alloc {a w : World} (h : Below a.heap.size a w) (o : Obj) : Below a.heap.size a (w.alloc o) := h.alloc h.size o
theorem bel_drew {a w : World} (h : Below a.heap.size a w) : Below a.heap.size a w.drew := h.drew
theorem bel_drewN {a w : World} (h : Below a.heap.size a w) (n : Nat) : Below a.heap.size a (w.drewN n) := ⟨h.os, h.tape, h.output, h.size, h.block⟩
theorem bel_set {a w : World} (h : Below a.heap.size a w) {p : Addr} (hp : a.heap.size ≤ p.block) (u : Value) : Below a.heap.size a (w.setCell p u) := h.setCell hp u
theorem bel_trans {a w w' : World} (h : Below a.heap.size a w) (k : Below w.heap.size w w') : Below a.heap.size a w' := h.trans (k.mono h.size)
theorem bel_trans' {a w w' : World} {B : Nat} (h : Below a.heap.size a w) (k : Below B w w') (hB : a.heap.size ≤ B) : Below a.heap.size a w' := h.trans (k.mono hB)
/-- What a world behind a call gives the walk: old cells and old marks read as before. -/
theorem bel_cells {W w1 : World} (hb : Below W.heap.size W w1) :
    (∀ b o, b < W.heap.size → w1.cell? ⟨b, o, none⟩ = W.cell? ⟨b, o, none⟩) ∧ (∀ b o, b < W.heap.size → w1.frozen? ⟨b, o, none⟩ = W.frozen? ⟨b, o, none⟩) :=
  ⟨fun b o h => hb.cell (p := ⟨b, o, none⟩) h, fun b o h => hb.frozen (p := ⟨b, o, none⟩) h⟩
/-- The draws outermost, whatever was done behind them. -/
theorem drewN_alloc (w : World) (n : Nat) (o : Obj) : (w.drewN n).alloc o = (w.alloc o).drewN n := rfl
theorem drewN_setCell (w : World) (n : Nat) (a : Addr) (v : Value) : (w.drewN n).setCell a v = (w.setCell a v).drewN n := rfl
theorem results_tmp5 {fn : Func} {t u v x y : Tmp} (h : fn.results = #[.tmp t, .tmp u, .tmp v, .tmp x, .tmp y]) (tmps : Array Value) (P : Program) (w : World) :
    (results fn tmps).run P w = .ok (.tuple #[tmps.getD t undef, tmps.getD u undef, tmps.getD v undef, tmps.getD x undef, tmps.getD y undef]) w := by simp [results, h]
theorem ret_bool {a b : Bool} (h : a = b) : Ending.returned (.bool a) = Ending.returned (.bool b) := by rw [h]
theorem ret_int {k : IntKind} {a b : Int} (h : a = b) : Ending.returned (.int k a) = Ending.returned (.int k b) := by rw [h]
theorem ret_ib {k : IntKind} {a b : Int} {p q : Bool} (h : a = b) (h' : p = q) : Ending.returned (.tuple #[.int k a, .bool p]) = Ending.returned (.tuple #[.int k b, .bool q]) := by rw [h, h']
end Go.Proofs.Cw

/-
  More small lemmas on worlds for the walks.
-/
namespace Go.Proofs.Cw
open Go.RowKit

theorem cell_after {W w1 : World} {a : Addr} {v : Value} (k : Below W.heap.size W w1) (hlt : a.block < W.heap.size) (h : W.cell? a = some v) : w1.cell? a = some v := (k.cell hlt).trans h
theorem frozen_after {W w1 : World} {a : Addr} (k : Below W.heap.size W w1) (hlt : a.block < W.heap.size) (h : W.frozen? a = false) : w1.frozen? a = false := (k.frozen hlt).trans h
theorem cell_alloc {W : World} {a : Addr} {v : Value} (o : Obj) (hlt : a.block < W.heap.size) (h : W.cell? a = some v) : (W.alloc o).cell? a = some v := (World.cell?_alloc_lt W o a hlt).trans h
theorem frozen_alloc {W : World} {a : Addr} (o : Obj) (hlt : a.block < W.heap.size) (h : W.frozen? a = false) : (W.alloc o).frozen? a = false :=
  (World.frozen?_alloc_old W o a (by omega)).trans h
end Go.Proofs.Cw

/-
  More small lemmas on worlds for the walks.
-/
namespace Go.Proofs.Cw
open Go.RowKit

/-- The world at a region, under a name of its own. -/
theorem region_name {P : Program} {c : Code} {Q : Exit → Act → World → Prop} {a : Act} {w : World} (h : ∀ W, W = w → c.wp P Q a W) : c.wp P Q a w := h w rfl
end Go.Proofs.Cw

/-
  A block that is known whole.
-/
namespace Go.Proofs.Cw
open Go.RowKit

def RowAt (w : World) (g : Nat) (t : TypeId) (cs : List Value) : Prop := w.heap[g]? = some (.cells cs.toArray t (0, 0))

section
variable {w w' : World} {g : Nat} {t : TypeId} {cs : List Value}
theorem RowAt.lt (h : RowAt w g t cs) : g < w.heap.size := by
  rcases Nat.lt_or_ge g w.heap.size with hl | hge
  · exact hl
  · unfold RowAt at h; rw [Array.getElem?_eq_none hge] at h; cases h
theorem RowAt.cell (h : RowAt w g t cs) (i : Nat) : w.cell? ⟨g, i, none⟩ = cs[i]? := by
  rw [cell_of_row w g i cs.toArray t (0, 0) h]; simp
theorem RowAt.frozen (h : RowAt w g t cs) (i : Nat) : w.frozen? ⟨g, i, none⟩ = false := by
  unfold RowAt at h
  simp [World.frozen?, h]
theorem RowAt.new (w : World) (t : TypeId) (cs : List Value) : RowAt (w.alloc (.cells cs.toArray t)) w.heap.size t cs := by
  show (w.heap.push _)[w.heap.size]? = _
  simp
theorem RowAt.drewN (h : RowAt w g t cs) (n : Nat) : RowAt (w.drewN n) g t cs := h
theorem RowAt.alloc (h : RowAt w g t cs) (o : Obj) : RowAt (w.alloc o) g t cs := (Below.heap_alloc w o g h.lt).trans h
theorem RowAt.set_ (h : RowAt w g t cs) (i : Nat) (u : Value) : RowAt (w.setCell ⟨g, i, none⟩ u) g t (cs.set i u) := by
  unfold RowAt at h ⊢
  simp [World.setCell, Array.getElem?_modify, h]
theorem RowAt.far (h : RowAt w g t cs) {p : Addr} (hp : g ≠ p.block) (u : Value) : RowAt (w.setCell p u) g t cs := (Below.heap_setCell w p u g hp).trans h
theorem RowAt.below {B : Nat} (h : RowAt w g t cs) (hb : Below B w w') (hg : g < B) : RowAt w' g t cs := (hb.block g hg).trans h
theorem RowAt.keep (h : RowAt w g t cs) (hb : Below w.heap.size w w') : RowAt w' g t cs := h.below hb h.lt
end

/-- The i-th of n cells, filled up to k. -/
def filled (n k : Nat) (f : Nat → Value) (z : Value) : List Value := (List.range n).map fun j => if j < k then f j else z
theorem filled_len (n k : Nat) (f : Nat → Value) (z : Value) : (filled n k f z).length = n := by simp [filled]
theorem filled_get {n k i : Nat} (f : Nat → Value) (z : Value) (hi : i < n) : (filled n k f z)[i]? = some (if i < k then f i else z) := by simp [filled, hi]
theorem filled_set (n k : Nat) (f : Nat → Value) (z : Value) : (filled n k f z).set k (f k) = filled n (k + 1) f z := by
  apply List.ext_getElem?
  intro i
  rw [List.getElem?_set]
  by_cases hik : k = i
  · subst hik
    by_cases hn : k < n
    · simp [filled, hn]
    · simp [filled, hn]
  · simp only [hik, if_false]
    by_cases hn : i < n
    · rw [filled_get f z hn, filled_get f z hn]
      by_cases h1 : i < k
      · rw [if_pos h1, if_pos (by omega)]
      · rw [if_neg h1, if_neg (by omega)]
    · simp [filled, hn]
theorem filled_made (z : Value) (n : Nat) (f : Nat → Value) : madeCells #[z] n = (filled n 0 f z).toArray := by
  apply Array.ext_getElem?
  intro i
  by_cases hi : i < n
  · simp [madeCells, filled, hi, Nat.mod_one]
  · simp [madeCells, filled, hi]
end Go.Proofs.Cw

/-
  make of a slice of structs whose size the walk computes.
-/
namespace Go.Proofs.Cw
open Go.RowKit
set_option linter.unusedVariables false

theorem run_make_agg {P : Program} (t e : TypeId) (zv : Value) (z : Array Value) (size bytes : Nat) (ht : P.underlying t = some (.slice e)) (hinfo : (P.info? e).map (fun i => (i.zero, i.size, i.bytes)) = some (some zv, size, bytes)) (hz1 : zv.cells = z)
    (kl kc : IntKind) (n : Nat) (hbytes : bytes * n ≤ 281474976710656) (h63 : n ≤ 9223372036854775807) (w : World) :
    (Instr.makeSlice t (.int kl (n : Int)) (.int kc (n : Int))).run P w = .ok (.slice (some ⟨w.heap.size, 0, none⟩) n n) (w.alloc (.cells (madeCells z (n * size)) e)) := by
  obtain ⟨i, hi, hzz⟩ := Option.map_eq_some_iff.1 hinfo
  simp only [Prod.mk.injEq] at hzz
  obtain ⟨hz, hs, hb⟩ := hzz
  have hb' : (i.bytes : Int) * (n : Int) ≤ 281474976710656 := by
    have h : ((i.bytes * n : Nat) : Int) ≤ 281474976710656 := by rw [hb]; omega
    rwa [Int.natCast_mul] at h
  have hr := run_make (P := P) w t e i zv ht hi hz kl kc n n (by omega) (Int.le_refl _) hb' (by omega)
  simp only [Int.toNat_natCast, hs, hz1] at hr
  exact hr

theorem filled_made3 (z : Value) (n : Nat) (f : Nat → Value) : madeCells #[z, z, z] n = (filled n 0 f z).toArray := by
  apply Array.ext_getElem?
  intro i
  by_cases hi : i < n
  · have h3 : i % 3 = 0 ∨ i % 3 = 1 ∨ i % 3 = 2 := by omega
    rcases h3 with h | h | h <;> simp [madeCells, filled, hi, h]
  · simp [madeCells, filled, hi]
/-- One cell more that is as it was. -/
theorem filled_same (n k : Nat) (f : Nat → Value) (z : Value) (h : f k = z) : filled n k f z = filled n (k + 1) f z := by
  apply List.ext_getElem?
  intro i
  by_cases hn : i < n
  · rw [filled_get f z hn, filled_get f z hn]
    by_cases h1 : i < k
    · rw [if_pos h1, if_pos (by omega)]
    · rw [if_neg h1]
      by_cases h2 : i = k
      · subst h2; rw [if_pos (by omega), h]
      · rw [if_neg (by omega)]
  · simp [filled, hn]
end Go.Proofs.Cw

namespace Go.Proofs.Cw
theorem post_name {Q : Exit → Act → World → Prop} {e : Exit} {a : Act} {w : World} (h : ∀ W, W = w → Q e a W) : Q e a w := h w rfl
end Go.Proofs.Cw
end
