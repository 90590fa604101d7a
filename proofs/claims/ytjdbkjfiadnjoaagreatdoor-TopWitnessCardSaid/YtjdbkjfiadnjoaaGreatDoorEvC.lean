/- The proved evaluator: part C (SdN SdO SdP SdQ SdR SdS SdT SdU SdV SdW SdX SdY SdZ SeA SeB SeC SeD SeE). -/
import Derived.Test.YtjdbkjfiadnjoaaGreatDoorEvB
import Derived.Laws.StructEq
import Derived.Laws.Cover3
import Derived.Laws.Pointers
import Derived.Laws.BytesString
import Derived.Laws.IdiomStrings
import Derived.OrdersIn
import Derived.Lib.UnsafeStr
import Derived.Laws.LoneSync
import Derived.Lib.Bytealg
import Derived.Lib.MakeNoZero
set_option linter.unusedVariables false
set_option linter.unusedSimpArgs false
section
/- Maps. -/
namespace Go.Ev
open Go
set_option linter.unusedVariables false
set_option linter.unusedSimpArgs false
section
variable {P : Program} {C : Ctx} {ρ : Ren}

theorem eqI_rel {a b : V} {x y : Value} {q : Bool → Bool} (ha : RelV ρ a x) (hb : RelV ρ b y) (h : eqI a b q = true) : ∃ k m n, x = .int k m ∧ y = .int k n ∧ q (m == n) = true := by
  unfold eqI at h
  rcases V.numOr_true.1 h with ⟨m, rfl, h1⟩ | ⟨_, h1⟩
  · cases ha with
    | num _ hm =>
      rcases V.numOr_true.1 h1 with ⟨n, hbn, h2⟩ | ⟨_, h2⟩
      · rw [hbn] at hb
        cases hb with
        | num _ hn => exact ⟨_, _, _, rfl, rfl, by rw [beq_beq]; exact h2⟩
      · obtain ⟨k, n, rfl, h3⟩ := onInt_rel hb h2
        obtain ⟨hk, h4⟩ := ifb_and.1 h3
        have hk := beqK_iff.1 hk
        refine ⟨.i64, m, n, rfl, by rw [hk], ?_⟩
        rw [beqI_eq] at h4; exact h4
  · obtain ⟨k, m, rfl, h2⟩ := onInt_rel ha h1
    obtain ⟨l, n, rfl, h3⟩ := onInt_rel hb h2
    obtain ⟨hk, h4⟩ := ifb_and.1 h3
    have hk := beqK_iff.1 hk
    refine ⟨k, m, n, rfl, by rw [hk], ?_⟩
    rw [beqI_eq] at h4; exact h4
theorem eqT_rel {a b : V} {x y : Value} {q : Bool → Bool} (ha : RelV ρ a x) (hb : RelV ρ b y) (h : eqT a b q = true) : ∃ s u, x = .string s ∧ y = .string u ∧ q (s == u) = true := by
  unfold eqT at h
  obtain ⟨s, rfl, h⟩ := onStr_rel ha h
  obtain ⟨u, rfl, h⟩ := onStr_rel hb h
  refine ⟨s, u, rfl, rfl, ?_⟩
  unfold bytesOf at h
  rw [eqLN_eq] at h
  have e : (s == u) = decide (s.data.toList = u.data.toList) := by
    have e1 : (s == u) = (s.data == u.data) := rfl
    rw [e1, Bool.eq_iff_iff]
    simp only [beq_iff_eq, decide_eq_true_eq]
    constructor
    · intro h; rw [h]
    · intro h; exact Array.ext' h
  rw [e]; exact h
theorem eqB_rel {a b : V} {x y : Value} {q : Bool → Bool} (ha : RelV ρ a x) (hb : RelV ρ b y) (h : eqB a b q = true) : ∃ s u, x = .bool s ∧ y = .bool u ∧ q (s == u) = true := by
  unfold eqB at h
  obtain ⟨s, rfl, h⟩ := onBool_rel ha h
  obtain ⟨u, rfl, h⟩ := onBool_rel hb h
  refine ⟨s, u, rfl, rfl, ?_⟩
  cases s <;> cases u <;> simpa [ifb, notB] using h

/-- Are two keys alike? -/
theorem key_rel {kt : Nat} {ki : TI} {a b : V} {x y : Value} {q : Bool → Bool} (hk : C.ty kt = some ki) (hd : keyD ki.desc = true) (ha : RelV ρ a x) (hb : RelV ρ b y) (h : (eqV C 1 kt).run a b q = true) :
    ∃ c, q c = true ∧ Instr.sameNow ki.desc x y = some c ∧ (c = true → Instr.sameBits 10000 y x = true) := by
  unfold eqV at h
  rw [hk] at h
  simp only at h
  cases hdd : ki.desc with
  | int k =>
    rw [hdd] at h
    obtain ⟨k, m, n, rfl, rfl, h⟩ := eqI_rel ha hb h
    refine ⟨_, h, by simp [Instr.sameNow], fun hc => ?_⟩
    have : m = n := by simpa using hc
    simp [Instr.sameBits, this]
  | string =>
    rw [hdd] at h
    obtain ⟨s, u, rfl, rfl, h⟩ := eqT_rel ha hb h
    refine ⟨_, h, by simp [Instr.sameNow], fun hc => ?_⟩
    have e1 : (s == u) = (s.data == u.data) := rfl
    rw [e1] at hc
    have hc := beq_iff_eq.1 hc
    have : s = u := ByteArray.ext hc
    subst this
    have e2 : (s == s) = (s.data == s.data) := rfl
    simp [Instr.sameBits, e2]
  | bool =>
    rw [hdd] at h
    obtain ⟨s, u, rfl, rfl, h⟩ := eqB_rel ha hb h
    refine ⟨_, h, by simp [Instr.sameNow], fun hc => ?_⟩
    have : s = u := by simpa using hc
    simp [Instr.sameBits, this]
  | _ => rw [hdd] at hd; cases hd

theorem findE_rel {kt : Nat} {ki : TI} (hk : C.ty kt = some ki) (hd : keyD ki.desc = true) {key : V} {kx : Value} (hkey : RelV ρ key kx) {miss : Unit → Bool} {hit : Nat → V → Nat → Bool} :
    ∀ (es : List (V × V × Nat)) (ms : List MapEntry) (i : Nat), es.length = ms.length → (∀ (j : Nat) x m, es[j]? = some x → ms[j]? = some m → EntRel ρ x m) →
    foldL (fun (_ : Nat) => miss ()) (fun x _ r i => onPair x (fun q vb => (eqV C 1 kt).run key q (fun c => ifb c (onPair vb (fun v b => hit i v b)) (frc (Nat.add i 1) r)))) es i = true →
    (Instr.findNow ki.desc kx ms i = some none ∧ miss () = true) ∨
    ∃ j x m, es[j]? = some x ∧ ms[j]? = some m ∧ Instr.findNow ki.desc kx ms i = some (some (i + j, m.val)) ∧ hit (i + j) x.2.1 x.2.2 = true ∧ Instr.sameBits 10000 m.key kx = true
  | [], [], i, _, _, h => .inl ⟨rfl, h⟩
  | [], _ :: _, _, hl, _, _ => by simp at hl
  | _ :: _, [], _, hl, _, _ => by simp at hl
  | x :: es, m :: ms, i, hl, hr, h => by
    have h0 := hr 0 x m rfl rfl
    rw [foldL_cons, onPair_true] at h
    obtain ⟨c, h, hs, hb⟩ := key_rel hk hd hkey h0.key h
    rcases ifb_true.1 h with ⟨hc, h⟩ | ⟨hc, h⟩
    · subst hc
      rw [onPair_true] at h
      refine .inr ⟨0, x, m, rfl, rfl, by simp [Instr.findNow, hs], h, hb rfl⟩
    · subst hc
      have ih := findE_rel hk hd hkey es ms (i + 1) (by simpa using hl) (fun j x m hx hm => hr (j + 1) x m (by simpa using hx) (by simpa using hm)) h
      rcases ih with ⟨h1, h2⟩ | ⟨j, x', m', h1, h2, h3, h4, h5⟩
      · exact .inl ⟨by simp [Instr.findNow, hs, h1], h2⟩
      · exact .inr ⟨j + 1, x', m', by simpa using h1, by simpa using h2, by simp [Instr.findNow, hs, h3]; omega, by rw [show i + (j + 1) = i + 1 + j by omega]; exact h4, h5⟩

theorem setE_eq {es : List (V × V × Nat)} {n : Nat} {y : V × V × Nat} {k : List (V × V × Nat) → Bool} (h : setE es n y k = true) : k (es.set n y) = true := by
  unfold setE at h
  induction es generalizing n k with
  | nil => exact h
  | cons x t ih =>
    rw [foldL_cons] at h
    rcases ifb_true.1 h with ⟨h0, h⟩ | ⟨h0, h⟩
    · have h0 := Nat.eq_of_beq_eq_true h0; subst h0; exact h
    · cases n with
      | zero => simp at h0
      | succ n => exact ih h
theorem dropE_eq {es : List (V × V × Nat)} {n : Nat} {k : List (V × V × Nat) → Bool} (h : dropE es n k = true) : k (es.eraseIdx n) = true := by
  unfold dropE at h
  induction es generalizing n k with
  | nil => exact h
  | cons x t ih =>
    rw [foldL_cons] at h
    rcases ifb_true.1 h with ⟨h0, h⟩ | ⟨h0, h⟩
    · have h0 := Nat.eq_of_beq_eq_true h0; subst h0; exact h
    · cases n with
      | zero => simp at h0
      | succ n => exact ih h

/-- A map's type. -/
theorem mapD_some {t : Nat} {ei : TI} (hC : CtxOk P C) (h : mapD C t = some ei) : ∃ kt el ki, P.underlying t = some (.map kt el) ∧ C.ty kt = some ki ∧ P.underlying kt = some ki.desc ∧ keyD ki.desc = true ∧ C.ty el = some ei ∧ keyEq C t = eqV C 1 kt := by
  unfold mapD at h
  split at h
  · rename_i ti hti
    obtain ⟨_, _, _, h3⟩ := ty_some hC hti
    split at h
    · rename_i kt el hdesc
      split at h
      · rename_i ki ei' hki hei
        split at h
        · rename_i hkd
          simp only [Option.some.injEq] at h
          subst h
          obtain ⟨_, _, _, h4⟩ := ty_some hC hki
          refine ⟨kt, el, ki, by rw [h3, hdesc], hki, h4, hkd, hei, ?_⟩
          unfold keyEq
          rw [hti]; simp only [hdesc]
        · cases h
      · cases h
    · cases h
  · cases h

theorem run_checkKey {kt : Nat} {d : TypeDesc} {b : Bool} {x : Value} {w : World} (h : P.underlying kt = some d) (hd : keyD d = true) : (Instr.checkKey b 10000 kt x).run P w = .ok () w := by
  show (Instr.checkKey b (9999 + 1) kt x).run P w = .ok () w
  unfold Instr.checkKey
  rw [Sem.run_bind, run_und h]
  cases d <;> first | (cases hd; done) | simp

theorem run_findKey {kt : Nat} {d : TypeDesc} {x : Value} {ms : List MapEntry} {r : Option (Nat × Value)} {w : World} (h : P.underlying kt = some d) (hf : Instr.findNow d x ms 0 = some r) : (Instr.findKey kt x ms).run P w = .ok r w := by
  unfold Instr.findKey
  rw [Sem.run_bind, run_und h]
  simp [hf]

theorem map_obj {h : Heap} {w : World} {i : Nat} {B : Blk} {es : List (V × V × Nat)} {c : Nat} (hH : HeapRel P C ρ h w) (hB : ρ i = some B) (hg : hget i h = .map es c) :
    ∃ ms, w.heap[B.b]? = some (.map ms c) ∧ es.length = ms.size ∧ ∀ (i : Nat) x m, es[i]? = some x → ms[i]? = some m → EntRel ρ x m := by
  have := hH.obj i B hB
  rw [hg] at this
  exact this

theorem run_getMap {w : World} {b c : Nat} {ms : Array MapEntry} (h : w.heap[b]? = some (.map ms c)) : (getObj b).run P w = .ok (.map ms c) w := by
  simp [getObj, Sem.run, h]
theorem run_setMap {w : World} {b c c' : Nat} {ms ms' : Array MapEntry} (h : w.heap[b]? = some (.map ms c)) : (setObj b (.map ms' c')).run P w = .ok () { w with heap := w.heap.setIfInBounds b (.map ms' c') } := by
  simp [setObj, Sem.run, h]

/-- A map is changed. -/
theorem put_map {h : Heap} {w : World} {i c c' : Nat} {B : Blk} {es es' : List (V × V × Nat)} {ms' : Array MapEntry} {k : Heap → Bool} (hH : HeapRel P C ρ h w) (hB : ρ i = some B) (hg : hget i h = .map es c) (hl : es'.length = ms'.size)
    (hr : ∀ (i : Nat) x m, es'[i]? = some x → ms'[i]? = some m → EntRel ρ x m) (hx : hput i (.map es' c') h k = true) :
    ∃ h', k h' = true ∧ HeapRel P C ρ h' { w with heap := w.heap.setIfInBounds B.b (.map ms' c') } ∧ Le ρ h w ρ h' { w with heap := w.heap.setIfInBounds B.b (.map ms' c') } := by
  obtain ⟨h', hk, hn, hg'⟩ := hput_spec hx
  have hb := (hH.dom i B hB).2
  obtain ⟨a, b⟩ := hH.put (w' := { w with heap := w.heap.setIfInBounds B.b (.map ms' c') }) (o := .map es' c') hB (by rw [hg]; rfl) (by simp)
    ⟨ms', by simp [hb], hl, hr⟩ (fun b hne => by simp [Array.getElem?_setIfInBounds, hne.symm]) hn hg' (by simp)
  exact ⟨h', hk, a, b⟩

theorem ok_lookup {T : Rt → Prop} {o : Oper} {t : Nat} {m key : Operand} {ok : Bool} (hC : CtxOk P C) (ho : o.op = .lookup t m key ok) : OpOk T P C (lookupK C t m key ok) o := by
  have hd : ∀ c, o.op ≠ .defer c := by rw [ho]; simp
  unfold lookupK
  split
  · rename_i ei hmd
    obtain ⟨kt, el, ki, h1, h2, h3, h4, h5, h6⟩ := mapD_some hC hmd
    obtain ⟨ie, g1, g2, g2b, g3, z, g4, g4b, g5, g6, g7, g8⟩ := hC.ty el ei h5
    have key' : ∀ (ρ : Ren) (e : Env) (h : Heap) (a : Act) (w : World) (miss : Bool) (hit : V → Bool), EnvRel ρ e a.tmps → HeapRel P C ρ h w →
        V.onMap ((opnd m).get e) (fun i => O.onMap (hget i h) (fun es _ => V.live ((opnd key).get e) (fun q => findE (keyEq C t) q es (fun _ => miss) (fun _ v _ => hit v)))) miss = true →
        (miss = true ∧ (execOp a.eval o).run P w = .ok (.value (if ok then .tuple #[z, .bool false] else z)) w) ∨ ∃ V v, hit V = true ∧ RelV ρ V v ∧ (execOp a.eval o).run P w = .ok (.value (if ok then .tuple #[v, .bool true] else v)) w := by
      intro ρ e h a w miss hit hE hH hx
      have hr := opnd_rel hE m
      rcases V.onMap_true.1 hx with ⟨i, hm, hx⟩ | ⟨hm, hx⟩
      · rw [hm] at hr
        obtain ⟨B, hB, hv⟩ : ∃ B, ρ i = some B ∧ a.eval m = .map (some B.b) := by
          generalize a.eval m = vm at *
          cases hr with | map _ B hB => exact ⟨B, hB, rfl⟩
        obtain ⟨es, c, hg, hx⟩ := O.onMap_true.1 hx
        obtain ⟨_, hx⟩ := V.live_true.1 hx
        obtain ⟨ms, hms, hl, hent⟩ := map_obj hH hB hg
        rw [h6] at hx
        rcases findE_rel (miss := fun _ => miss) (hit := fun _ v _ => hit v) h2 h4 (opnd_rel hE key) es ms.toList 0 (by simpa using hl) (fun j x m hx hm => hent j x m hx (by simpa using hm)) hx with ⟨f1, f2⟩ | ⟨j, x, mm, f1, f2, f3, f4, _⟩
        · refine .inl ⟨f2, ?_⟩
          simp [execOp, ho, Instr.lookup, run_und h1, hv, run_getMap hms, run_checkKey h3 h4, run_findKey h3 f1, run_zero g1 g4]
        · refine .inr ⟨x.2.1, mm.val, f4, (hent j x mm f1 (by simpa using f2)).val, ?_⟩
          simp [execOp, ho, Instr.lookup, run_und h1, hv, run_getMap hms, run_checkKey h3 h4, run_findKey h3 f3]
      · rw [hm] at hr
        have hv : a.eval m = .map none := by
          generalize a.eval m = vm at *
          cases hr; rfl
        refine .inl ⟨hx, ?_⟩
        have f1 : Instr.findNow ki.desc (a.eval key) [] 0 = some none := rfl
        simp [execOp, ho, Instr.lookup, run_und h1, hv, run_checkKey h3 h4, run_findKey h3 f1, run_zero g1 g4]
    dsimp only
    split
    · refine .still hd fun rt e h k ρ a w hx hE hH => ?_
      rcases key' ρ e h a w (k (.tup [ei.zero, .bool false]) h) (fun v => k (.tup [v, .bool true]) h) hE hH hx with ⟨f1, f2⟩ | ⟨V, v, f1, f2, f3⟩
      · exact ⟨_, _, w, f1, RelV.tup_of (x := #[z, .bool false]) (.cons (g4b ρ) (.cons (.bool false) .nil)), by simpa using f2, rfl⟩
      · exact ⟨_, _, w, f1, RelV.tup_of (x := #[v, .bool true]) (.cons f2 (.cons (.bool true) .nil)), by simpa using f3, rfl⟩
    · refine .still hd fun rt e h k ρ a w hx hE hH => ?_
      rcases key' ρ e h a w (V.live ei.zero (fun z => k z h)) (fun v => k v h) hE hH hx with ⟨f1, f2⟩ | ⟨V, v, f1, f2, f3⟩
      · obtain ⟨_, f1⟩ := V.live_true.1 f1
        exact ⟨_, _, w, f1, g4b ρ, by simpa using f2, rfl⟩
      · exact ⟨_, _, w, f1, f2, by simpa using f3, rfl⟩
  · exact .bad

theorem keyStays {old new : Value} {w : World} (h : Instr.sameBits 10000 old new = true) : (Instr.keyThatStays old new).run P w = .ok new w := by
  unfold Instr.keyThatStays
  simp [h]

theorem ok_update {T : Rt → Prop} {o : Oper} {t : Nat} {m key x : Operand} (hC : CtxOk P C) (ho : o.op = .mapUpdate t m key x ∨ o.op = .insert t m key x) : OpOk T P C (updateK C t m key x) o := by
  have hd : ∀ c, o.op ≠ .defer c := by rcases ho with ho | ho <;> rw [ho] <;> simp
  have hex : ∀ a : Act, execOp a.eval o = (do Instr.mapUpdate t (a.eval m) (a.eval key) (a.eval x); pure .skip : Sem Next) := fun a => by
    rcases ho with ho | ho <;> simp [execOp, ho]
  unfold updateK
  split
  · rename_i ei hmd
    obtain ⟨kt, el, ki, h1, h2, h3, h4, h5, h6⟩ := mapD_some hC hmd
    intro rt r e h k ρ a w _ hx hE hH
    have hr := opnd_rel hE m
    rcases V.onMap_true.1 hx with ⟨i, hm, hx⟩ | ⟨_, hx⟩
    · rw [hm] at hr
      obtain ⟨B, hB, hv⟩ : ∃ B, ρ i = some B ∧ a.eval m = .map (some B.b) := by
        generalize a.eval m = vm at *
        cases hr with | map _ B hB => exact ⟨B, hB, rfl⟩
      obtain ⟨es, c, hg, hx⟩ := O.onMap_true.1 hx
      obtain ⟨_, hx⟩ := V.live_true.1 hx
      obtain ⟨_, hx⟩ := V.live_true.1 hx
      obtain ⟨ms, hms, hl, hent⟩ := map_obj hH hB hg
      rw [h6] at hx
      have rk := opnd_rel hE key
      have rx := opnd_rel hE x
      rcases findE_rel (miss := fun _ => frcApp es [((opnd key).get e, (opnd x).get e, c)] (fun es => frc (Nat.add c 1) (fun c => hput i (.map es c) h (fun h => k tup0 h))))
          (hit := fun j _ b => setE es j ((opnd key).get e, (opnd x).get e, b) (fun es => hput i (.map es c) h (fun h => k tup0 h))) h2 h4 rk es ms.toList 0 (by simpa using hl) (fun j x m hx hm => hent j x m hx (by simpa using hm)) hx with ⟨f1, f2⟩ | ⟨j, y, mm, f1, f2, f3, f4, f5⟩
      · rw [frcApp_eq, frc_eq] at f2
        obtain ⟨h', hk, hH', hL⟩ := put_map (ms' := ms.push { key := a.eval key, val := a.eval x, born := c }) hH hB hg (by simp [hl]) (fun j y mm hy hmm => by
          rw [List.getElem?_append] at hy
          rw [Array.getElem?_push] at hmm
          by_cases hj : j < es.length
          · rw [if_pos hj] at hy
            rw [if_neg (by omega)] at hmm
            exact hent j y mm hy hmm
          · rw [if_neg hj] at hy
            by_cases hj2 : j = ms.size
            · rw [if_pos hj2] at hmm
              have : j - es.length = 0 := by omega
              rw [this] at hy
              simp at hy hmm
              subst hy hmm
              exact ⟨rk, rx, rfl⟩
            · rw [if_neg hj2, Array.getElem?_eq_none (by omega)] at hmm; cases hmm) f2
        refine Upon.skip hd ?_ ⟨tup0, h', ρ, hk, RelV.tup_of (x := #[]) .nil, hH', hL⟩
        rw [hex]
        simp [Instr.mapUpdate, run_und h1, hv, run_getMap hms, run_checkKey h3 h4, run_findKey h3 f1, run_setMap hms]
      · have f4 := setE_eq f4
        have f2' : ms[j]? = some mm := by simpa using f2
        obtain ⟨h', hk, hH', hL⟩ := put_map (ms' := ms.modify (0 + j) fun e => { e with key := a.eval key, val := a.eval x }) hH hB hg (by simp [hl]) (fun q y' mm' hy hmm => by
          rw [List.getElem?_set] at hy
          rw [Array.getElem?_modify] at hmm
          by_cases hj : 0 + j = q
          · rw [if_pos hj] at hy hmm
            have hjl : 0 + j < es.length := by
              rcases Nat.lt_or_ge j es.length with h | h
              · omega
              · rw [List.getElem?_eq_none h] at f1; cases f1
            rw [if_pos hjl] at hy
            subst hj
            simp only [Nat.zero_add] at hmm
            rw [f2'] at hmm
            simp at hy hmm
            subst hy hmm
            exact ⟨rk, rx, (hent j y mm f1 f2').born⟩
          · rw [if_neg hj] at hy hmm
            exact hent q y' mm' hy hmm) f4
        refine Upon.skip hd ?_ ⟨tup0, h', ρ, hk, RelV.tup_of (x := #[]) .nil, hH', hL⟩
        rw [hex]
        have f2'' : ms[0 + j]? = some mm := by rw [Nat.zero_add]; exact f2'
        simp only [Instr.mapUpdate, Sem.run_bind, run_und h1, Result.andThen_ok, hv, run_getMap hms, run_checkKey h3 h4, run_findKey h3 f3, f2'', Option.map_some, Option.getD_some, keyStays f5, run_setMap hms, Sem.run_pure]
    · exact absurd hx (by simp)
  · exact .bad
end
end Go.Ev
end

section
/- Maps, more: entries, deletes, clears; copies. -/
namespace Go.Ev
open Go
set_option linter.unusedVariables false
set_option linter.unusedSimpArgs false
section
variable {P : Program} {C : Ctx} {ρ : Ren}

/-- Entries with one more. -/
theorem ents_push {es : List (V × V × Nat)} {ms : Array MapEntry} {x : V × V × Nat} {m : MapEntry} (hl : es.length = ms.size) (hr : ∀ (i : Nat) x m, es[i]? = some x → ms[i]? = some m → EntRel ρ x m) (hx : EntRel ρ x m) :
    (es ++ [x]).length = (ms.push m).size ∧ ∀ (i : Nat) y n, (es ++ [x])[i]? = some y → (ms.push m)[i]? = some n → EntRel ρ y n := by
  refine ⟨by simp [hl], fun j y mm hy hmm => ?_⟩
  rw [List.getElem?_append] at hy
  rw [Array.getElem?_push] at hmm
  by_cases hj : j < es.length
  · rw [if_pos hj] at hy
    rw [if_neg (by omega)] at hmm
    exact hr j y mm hy hmm
  · rw [if_neg hj] at hy
    by_cases hj2 : j = ms.size
    · rw [if_pos hj2] at hmm
      have : j - es.length = 0 := by omega
      rw [this] at hy
      simp at hy hmm
      subst hy hmm
      exact hx
    · rw [if_neg hj2, Array.getElem?_eq_none (by omega)] at hmm; cases hmm

/-- Entries with one changed. -/
theorem ents_modify {es : List (V × V × Nat)} {ms : Array MapEntry} {j : Nat} {y : V × V × Nat} {mm : MapEntry} {f : MapEntry → MapEntry} (hl : es.length = ms.size) (hr : ∀ (i : Nat) x m, es[i]? = some x → ms[i]? = some m → EntRel ρ x m)
    (hj : ms[j]? = some mm) (hx : EntRel ρ y (f mm)) : (es.set j y).length = (ms.modify j f).size ∧ ∀ (i : Nat) y' n, (es.set j y)[i]? = some y' → (ms.modify j f)[i]? = some n → EntRel ρ y' n := by
  refine ⟨by simp [hl], fun q y' mm' hy hmm => ?_⟩
  rw [List.getElem?_set] at hy
  rw [Array.getElem?_modify] at hmm
  by_cases hjq : j = q
  · rw [if_pos hjq] at hy hmm
    have hjl : j < es.length := by
      rcases Nat.lt_or_ge j ms.size with h | h
      · omega
      · rw [Array.getElem?_eq_none h] at hj; cases hj
    rw [if_pos hjl] at hy
    subst hjq
    rw [hj] at hmm
    simp at hy hmm
    subst hy hmm
    exact hx
  · rw [if_neg hjq] at hy hmm
    exact hr q y' mm' hy hmm

theorem map_inv {i : Nat} {x : Value} (h : RelV ρ (.map i) x) : ∃ B, ρ i = some B ∧ x = .map (some B.b) := by
  cases h with | map _ B hB => exact ⟨B, hB, rfl⟩

theorem ok_entry {T : Rt → Prop} {o : Oper} {t : Nat} {m key : Operand} (hC : CtxOk P C) (ho : o.op = .mapEntry t m key) : OpOk T P C (entryK C t m key) o := by
  have hd : ∀ c, o.op ≠ .defer c := by rw [ho]; simp
  unfold entryK
  split
  · rename_i ei hmd
    obtain ⟨kt, el, ki, h1, h2, h3, h4, h5, h6⟩ := mapD_some hC hmd
    obtain ⟨ie, g1, g2, g2b, g3, z, g4, g4b, g5, g6, g7, g8⟩ := hC.ty el ei h5
    intro rt r e h k ρ a w _ hx hE hH
    have hr := opnd_rel hE m
    rcases V.onMap_true.1 hx with ⟨i, hm, hx⟩ | ⟨_, hx⟩
    · rw [hm] at hr
      obtain ⟨B, hB, hv⟩ := map_inv hr
      obtain ⟨es, c, hg, hx⟩ := O.onMap_true.1 hx
      obtain ⟨_, hx⟩ := V.live_true.1 hx
      obtain ⟨ms, hms, hl, hent⟩ := map_obj hH hB hg
      rw [h6] at hx
      have rk := opnd_rel hE key
      rcases findE_rel (miss := fun _ => V.live ei.zero (fun z => frcApp es [((opnd key).get e, z, c)] (fun es => frc (Nat.add c 1) (fun c' => hput i (.map es c') h (fun h => k (.tup [z, .ik .i64 (.ofNat c)]) h)))))
          (hit := fun j v b => setE es j ((opnd key).get e, v, b) (fun es => hput i (.map es c) h (fun h => k (.tup [v, .ik .i64 (.ofNat b)]) h))) h2 h4 rk es ms.toList 0 (by simpa using hl) (fun j x m hx hm => hent j x m hx (by simpa using hm)) hx with ⟨f1, f2⟩ | ⟨j, y, mm, f1, f2, f3, f4, f5⟩
      · obtain ⟨_, f2⟩ := V.live_true.1 f2
        rw [frcApp_eq, frc_eq] at f2
        obtain ⟨p1, p2⟩ := ents_push (x := ((opnd key).get e, ei.zero, c)) (m := { key := a.eval key, val := z, born := c }) hl hent ⟨rk, g4b ρ, rfl⟩
        obtain ⟨h', hk, hH', hL⟩ := put_map hH hB hg p1 p2 f2
        refine Upon.value hd ?_ ⟨_, h', ρ, hk, RelV.tup_of (x := #[z, goInt c]) (.cons (g4b ρ) (.cons (.ik _ _) .nil)), hH', hL⟩
        simp only [execOp, ho, Instr.mapEntry, Sem.run_bind, run_und h1, Result.andThen_ok, hv, run_getMap hms, run_checkKey h3 h4, run_findKey h3 f1, run_zero g1 g4, run_setMap hms, Sem.run_pure]
      · have f4 := setE_eq f4
        have f2' : ms[0 + j]? = some mm := by rw [Nat.zero_add]; simpa using f2
        have hej := hent j y mm f1 (by simpa using f2)
        obtain ⟨p1, p2⟩ := ents_modify (y := ((opnd key).get e, y.2.1, y.2.2)) (f := fun e => { e with key := a.eval key }) hl hent f2' ⟨rk, hej.val, hej.born⟩
        obtain ⟨h', hk, hH', hL⟩ := put_map hH hB hg p1 p2 f4
        refine Upon.value hd ?_ ⟨_, h', ρ, hk, RelV.tup_of (x := #[mm.val, goInt mm.born]) (.cons hej.val (.cons (by rw [hej.born]; exact .ik _ _) .nil)), hH', hL⟩
        simp only [execOp, ho, Instr.mapEntry, Sem.run_bind, run_und h1, Result.andThen_ok, hv, run_getMap hms, run_checkKey h3 h4, run_findKey h3 f3, f2', Option.map_some, Option.getD_some, keyStays f5, run_setMap hms, Sem.run_pure]
    · exact absurd hx (by simp)
  · exact .bad

theorem bornE_spec {b : Nat} {hit : Nat → V → Bool} : ∀ (es : List (V × V × Nat)) (ms : List MapEntry) (i : Nat), es.length = ms.length → (∀ (j : Nat) x m, es[j]? = some x → ms[j]? = some m → EntRel ρ x m) →
    foldL (fun (_ : Nat) => false) (fun x _ r i => onPair x (fun q vb => onPair vb (fun _ c => ifb (Nat.beq c b) (hit i q) (frc (Nat.add i 1) r)))) es i = true →
    ∃ j x m, es[j]? = some x ∧ ms[j]? = some m ∧ hit (i + j) x.1 = true ∧ ms.findIdx? (fun e => (e.born : Int) == (b : Int)) = some j
  | [], _, i, _, _, h => absurd h (by simp [foldL_nil])
  | x :: es, [], _, hl, _, _ => by simp at hl
  | x :: es, m :: ms, i, hl, hr, h => by
    have h0 := hr 0 x m rfl rfl
    rw [foldL_cons, onPair_true, onPair_true] at h
    rcases ifb_true.1 h with ⟨hc, h⟩ | ⟨hc, h⟩
    · have hc := Nat.eq_of_beq_eq_true hc
      refine ⟨0, x, m, rfl, rfl, h, ?_⟩
      rw [List.findIdx?_cons]
      simp [← h0.born, hc]
    · have hne : ¬ ((m.born : Int) == (b : Int)) = true := by
        rw [← h0.born]
        intro he
        have he : x.2.2 = b := by have := beq_iff_eq.1 he; omega
        rw [he] at hc
        simp at hc
      obtain ⟨j, y, m', h1, h2, h3, h4⟩ := bornE_spec es ms (i + 1) (by simpa using hl) (fun j x m hx hm => hr (j + 1) x m (by simpa using hx) (by simpa using hm)) h
      refine ⟨j + 1, y, m', by simpa using h1, by simpa using h2, by rw [show i + (j + 1) = i + 1 + j by omega]; exact h3, ?_⟩
      rw [List.findIdx?_cons, if_neg hne, h4]
      rfl

theorem ok_entryStore {T : Rt → Prop} {o : Oper} {t : Nat} {m s x : Operand} (ho : o.op = .entryStore t m s x) : OpOk T P C (entryStoreK m s x) o := by
  have hd : ∀ c, o.op ≠ .defer c := by rw [ho]; simp
  intro rt r e h k ρ a w _ hx hE hH
  have hr := opnd_rel hE m
  rcases V.onMap_true.1 hx with ⟨i, hm, hx⟩ | ⟨_, hx⟩
  · rw [hm] at hr
    obtain ⟨B, hB, hv⟩ := map_inv hr
    obtain ⟨es, c, hg, hx⟩ := O.onMap_true.1 hx
    obtain ⟨kd, b, hb, hx⟩ := onNat_rel (opnd_rel hE s) hx
    obtain ⟨_, hx⟩ := V.live_true.1 hx
    obtain ⟨ms, hms, hl, hent⟩ := map_obj hH hB hg
    obtain ⟨j, y, mm, f1, f2, f3, f4⟩ := bornE_spec (hit := fun j q => setE es j (q, (opnd x).get e, b) (fun es => hput i (.map es c) h (fun h => k tup0 h))) es ms.toList 0 (by simpa using hl) (fun j x m hx hm => hent j x m hx (by simpa using hm)) hx
    have f3 := setE_eq f3
    rw [Nat.zero_add] at f3
    have f2' : ms[j]? = some mm := by simpa using f2
    have hej := hent j y mm f1 f2'
    have f4' : ms.findIdx? (fun e => (e.born : Int) == (b : Int)) = some j := by
      rw [← List.findIdx?_toArray] at f4
      simpa using f4
    have hborn : b = mm.born := by
      have := (Array.findIdx?_eq_some_iff_getElem.1 f4').2.1
      have hjs : j < ms.size := (Array.findIdx?_eq_some_iff_getElem.1 f4').1
      rw [Array.getElem?_eq_getElem hjs] at f2'
      cases f2'
      have := beq_iff_eq.1 this
      omega
    obtain ⟨p1, p2⟩ := ents_modify (y := (y.1, (opnd x).get e, b)) (f := fun e => { e with val := a.eval x }) hl hent f2' ⟨hej.key, opnd_rel hE x, hborn⟩
    obtain ⟨h', hk, hH', hL⟩ := put_map hH hB hg p1 p2 f3
    refine Upon.skip hd ?_ ⟨tup0, h', ρ, hk, RelV.tup_of (x := #[]) .nil, hH', hL⟩
    simp only [execOp, ho, Instr.entryStore, Sem.run_bind, hv, run_getMap hms, Result.andThen_ok, asInt, hb, asIntOf, Sem.run_pure, f4', run_setMap hms]
  · exact absurd hx (by simp)

theorem ents_erase {es : List (V × V × Nat)} {ms : Array MapEntry} {j : Nat} (hl : es.length = ms.size) (hr : ∀ (i : Nat) x m, es[i]? = some x → ms[i]? = some m → EntRel ρ x m) (hj : j < ms.size) :
    (es.eraseIdx j).length = (ms.eraseIdxIfInBounds j).size ∧ ∀ (i : Nat) y' n, (es.eraseIdx j)[i]? = some y' → (ms.eraseIdxIfInBounds j)[i]? = some n → EntRel ρ y' n := by
  have e : (ms.eraseIdxIfInBounds j).toList = ms.toList.eraseIdx j := by simp [Array.eraseIdxIfInBounds, hj]
  refine ⟨by rw [← Array.length_toList, e, List.length_eraseIdx, List.length_eraseIdx]; simp [hl], fun q y' mm' hy hmm => ?_⟩
  rw [← Array.getElem?_toList, e] at hmm
  rw [List.getElem?_eraseIdx] at hy hmm
  split at hy
  · rename_i hq
    rw [if_pos hq] at hmm
    exact hr q y' mm' hy (by simpa using hmm)
  · rename_i hq
    rw [if_neg hq] at hmm
    exact hr _ y' mm' hy (by simpa using hmm)

theorem ok_delete {T : Rt → Prop} {o : Oper} {t : Nat} {m key : Operand} {ts : Array TypeId} (hC : CtxOk P C) (hts : ts[0]? = some t) (ho : o.op = .call { callee := .builtin .delete, args := #[m, key], argTypes := ts }) : OpOk T P C (deleteK C t m key) o := by
  have hd : ∀ c, o.op ≠ .defer c := by rw [ho]; simp
  unfold deleteK
  split
  · rename_i ei hmd
    obtain ⟨kt, el, ki, h1, h2, h3, h4, h5, h6⟩ := mapD_some hC hmd
    intro rt r e h k ρ a w _ hx hE hH
    have hr := opnd_rel hE m
    have fin : ∀ w', (Builtin.delete_ ts o.type #[a.eval m, a.eval key]).run P w = .ok (.tuple #[]) w' → (execOp a.eval o).run P w = .ok (.value (.tuple #[])) w' := by
      intro w' hh
      obtain ⟨cs, hb⟩ := run_builtin (P := P) (a := a) (w := w) ho
      rw [hb]; simp [builtin, hh]
    rcases V.onMap_true.1 hx with ⟨i, hm, hx⟩ | ⟨_, hx⟩
    · rw [hm] at hr
      obtain ⟨B, hB, hv⟩ := map_inv hr
      obtain ⟨es, c, hg, hx⟩ := O.onMap_true.1 hx
      obtain ⟨_, hx⟩ := V.live_true.1 hx
      obtain ⟨ms, hms, hl, hent⟩ := map_obj hH hB hg
      rw [h6] at hx
      have rk := opnd_rel hE key
      rcases findE_rel (miss := fun _ => k tup0 h) (hit := fun j _ _ => dropE es j (fun es => hput i (.map es c) h (fun h => k tup0 h))) h2 h4 rk es ms.toList 0 (by simpa using hl) (fun j x m hx hm => hent j x m hx (by simpa using hm)) hx with ⟨f1, f2⟩ | ⟨j, y, mm, f1, f2, f3, f4, f5⟩
      · -- the map is set to what it is
        have hb := (hH.dom i B hB).2
        have hsame : ({ w with heap := w.heap.setIfInBounds B.b (.map ms c) } : World).heap = w.heap := by
          show w.heap.setIfInBounds B.b (.map ms c) = w.heap
          apply Array.ext
          · simp
          · intro q q1 q2
            rw [Array.getElem_setIfInBounds]
            split
            · rename_i hq
              subst hq
              rw [Array.getElem?_eq_getElem q2] at hms
              exact (Option.some.inj hms).symm
            · rfl
        refine Upon.value hd (fin { w with heap := w.heap.setIfInBounds B.b (.map ms c) } ?_) (After.same f2 (RelV.tup_of (x := #[]) .nil) hH hsame)
        simp only [Builtin.delete_, hts, List.getElem?_toArray, Sem.run_bind, hv]
        simp [run_und h1, run_getMap hms, run_checkKey h3 h4, run_findKey h3 f1, run_setMap hms]
      · have f4 := dropE_eq f4
        rw [Nat.zero_add] at f4 f3
        have hjs : j < ms.size := by
          rcases Nat.lt_or_ge j ms.size with h | h
          · exact h
          · rw [List.getElem?_eq_none (by simpa using h)] at f2; cases f2
        obtain ⟨p1, p2⟩ := ents_erase hl hent hjs
        obtain ⟨h', hk, hH', hL⟩ := put_map hH hB hg p1 p2 f4
        refine Upon.value hd (fin _ ?_) ⟨tup0, h', ρ, hk, RelV.tup_of (x := #[]) .nil, hH', hL⟩
        simp [Builtin.delete_, hts, hv, run_und h1, run_getMap hms, run_checkKey h3 h4, run_findKey h3 f3, run_setMap hms]
    · exact absurd hx (by simp)
  · exact .bad

theorem minN_eq (n m : Nat) : minN n m = Nat.min n m := by
  unfold minN
  rcases Nat.le_total n m with h | h
  · rw [Nat.ble_eq_true_of_le h]; exact (Nat.min_eq_left h).symm
  · cases hb : Nat.ble n m with
    | true => have := Nat.le_of_ble_eq_true hb; have : n = m := Nat.le_antisymm this h; subst this; exact (Nat.min_self n).symm
    | false => exact (Nat.min_eq_right h).symm

/-- What a copy reads. -/
def Reads (P : Program) (ρ : Ren) (sz : Nat) (xv : Value) (w : World) (src : Nat → (Nat → List V → Bool) → Bool) : Prop :=
  ∀ (m : Nat) (k : Nat → List V → Bool), src m k = true → ∃ n cs news, k (Nat.min n m) cs = true ∧ RelL ρ cs news ∧ (∀ v ∈ cs, v.isOne = true) ∧ (Builtin.lenOf xv).run P w = .ok n w ∧ (Builtin.firstCells sz (Nat.min n m) xv).run P w = .ok news.toArray w

theorem reads_slice {sz : Nat} {x : V} {xv : Value} {hp : Heap} {w : World} (hH : HeapRel P C ρ hp w) (hr : RelV ρ x xv) : Reads P ρ sz xv w (sliceFirst sz x hp) := by
  intro m k h
  unfold sliceFirst at h
  rcases V.sliceOr_true.1 h with ⟨i, p, n, c, rfl, h'⟩ | ⟨rfl, h'⟩ | ⟨rfl, h'⟩
  · obtain ⟨B, cap, hB, rfl, _⟩ := sl_inv hr
    rw [frc_eq, minN_eq] at h'
    obtain ⟨l, xs, hk', h1, h2, h3, h4⟩ := rowGets_rel hH hB h'
    have h3 : l.length = Nat.min n m * sz := h3
    exact ⟨n, l, xs, hk', h1, h2, rfl, run_firstCells_some w sz (Nat.min n m) _ n cap xs (by rw [← h1.1]; exact h3) h4⟩
  · cases hr
    exact ⟨0, [], [], by rw [show Nat.min 0 m = 0 from Nat.zero_min m]; exact h', .nil, by simp, rfl, run_firstCells_none w sz _ 0 0⟩
  · cases hr with
    | esl ad cap => exact ⟨0, [], [], by rw [show Nat.min 0 m = 0 from Nat.zero_min m]; exact h', .nil, by simp, rfl, run_firstCells_some w sz _ ad 0 cap [] (by rw [show Nat.min 0 m = 0 from Nat.zero_min m]; simp) (by simp)⟩

theorem reads_text {x : V} {xv : Value} {w : World} (hr : RelV ρ x xv) : Reads P ρ 1 xv w (textFirst x) := by
  intro m k h
  unfold textFirst at h
  obtain ⟨s, rfl, h⟩ := onStr_rel hr h
  rw [frc_eq, minN_eq, lenL_eq, bytesOf_len] at h
  obtain ⟨h1, h⟩ := takeL_spec h
  rw [frcApp_eq, List.append_nil] at h
  have e : (bytesOf s).take (Nat.min s.size m) = bytesOf (s.extract 0 (Nat.min s.size m)) := by
    unfold bytesOf
    rw [ByteArray.data_extract, Array.toList_extract, List.extract_eq_take_drop, ← List.map_take]
    simp
  rw [e] at h
  refine ⟨s.size, _, byteCells (s.extract 0 (Nat.min s.size m)), h, bytes_rel, by simp [V.isOne], rfl, ?_⟩
  simp [Builtin.firstCells, byteCells]
  apply Array.ext'
  simp

theorem copy_rel {el : Nat} {ie : TypeInfo} {d : V} {dv xv : Value} {hp : Heap} {w : World} {dt st ty : TypeId} {src : Nat → (Nat → List V → Bool) → Bool} {k : V → Heap → Bool} (ht : P.underlying dt = some (.slice el)) (hi : P.info? el = some ie)
    (hH : HeapRel P C ρ hp w) (hdv : RelV ρ d dv) (hs : Reads P ρ ie.size xv w src) (h : copyTo d hp src k = true) :
    ∃ V v hp' w', k V hp' = true ∧ RelV ρ V v ∧ HeapRel P C ρ hp' w' ∧ Le ρ hp w ρ hp' w' ∧ (Builtin.copy_ #[dt, st] ty #[dv, xv]).run P w = .ok v w' := by
  unfold copyTo at h
  rcases V.sliceOr_true.1 h with ⟨i, o, m, c, rfl, h⟩ | ⟨rfl, h⟩ | ⟨_, h⟩
  · obtain ⟨B, cap, hB, rfl, _⟩ := sl_inv hdv
    obtain ⟨n, cs, news, h, hr, h1, hl, hf⟩ := hs m _ h
    obtain ⟨h', w', hk, hst, hH', hL⟩ := rowPuts_rel hH hB hr h1 h
    refine ⟨_, goInt (Nat.min n m), h', w', hk, .ik _ _, hH', hL, ?_⟩
    have hf' : (Builtin.firstCells ie.size (n.min m) xv).run P w = .ok news.toArray w := hf
    simp only [Builtin.copy_]
    simp [run_und ht, hl, run_size hi, hf', hst]
  · cases hdv
    obtain ⟨n, cs, news, h, hr, h1, hl, hf⟩ := hs 0 _ h
    have hf' : (Builtin.firstCells ie.size (n.min 0) xv).run P w = .ok news.toArray w := hf
    refine ⟨_, goInt (Nat.min n 0), hp, w, h, .ik _ _, hH, Le.refl _ _ _, ?_⟩
    simp only [Builtin.copy_]
    simp [run_und ht, hl, run_size hi] at hf' ⊢
    simp [hf']
  · exact absurd h (by simp)

theorem ok_copy {T : Rt → Prop} {o : Oper} {d s : Operand} {ts : Array TypeId} (hC : CtxOk P C) (ho : o.op = .call { callee := .builtin .copy, args := #[d, s], argTypes := ts }) : OpOk T P C (copyK C ts.toList d s) o := by
  have hd : ∀ c, o.op ≠ .defer c := by rw [ho]; simp
  unfold copyK
  split
  · rename_i dt st hts
    obtain rfl : ts = #[dt, st] := Array.ext' hts
    split
    · rename_i di si hdi hsi
      obtain ⟨_, _, _, u1⟩ := ty_some hC hdi
      split
      · rename_i el hdesc
        rw [hdesc] at u1
        split
        · rename_i ei hei
          obtain ⟨ie, g1, g2, _⟩ := ty_some hC hei
          have key : ∀ (a : Act) (w w' : World) (v : Value), (Builtin.copy_ #[dt, st] o.type #[a.eval d, a.eval s]).run P w = .ok v w' → (execOp a.eval o).run P w = .ok (.value v) w' := by
            intro a w w' v h
            obtain ⟨cs, h1⟩ := run_builtin (P := P) (a := a) (w := w) ho
            rw [h1]
            simp [builtin, h]
          dsimp only
          split
          · intro rt r e h k ρ a w _ hx hE hH
            obtain ⟨V, v, hp', w', a1, a2, a3, a4, a5⟩ := copy_rel (st := st) (ty := o.type) u1 g1 hH (opnd_rel hE d) (by rw [g2]; exact reads_slice hH (opnd_rel hE s)) hx
            exact Upon.value hd (key a w w' v a5) ⟨V, hp', ρ, a1, a2, a3, a4⟩
          · have hz : ei.sz = 1 := by assumption
            intro rt r e h k ρ a w _ hx hE hH
            obtain ⟨V, v, hp', w', a1, a2, a3, a4, a5⟩ := copy_rel (st := st) (ty := o.type) u1 g1 hH (opnd_rel hE d) (by rw [g2, hz]; exact reads_text (opnd_rel hE s)) hx
            exact Upon.value hd (key a w w' v a5) ⟨V, hp', ρ, a1, a2, a3, a4⟩
          · exact .bad
        · exact .bad
      · exact .bad
    · exact .bad
  · exact .bad
end
end Go.Ev
end

section
/- Equality. -/
namespace Go.Ev
open Go
set_option linter.unusedVariables false
set_option linter.unusedSimpArgs false
section
variable {P : Program} {C : Ctx} {ρ : Ren}

/-- The equality of a type: with fuel enough the machine says as much. -/
def EqOk (P : Program) (t : Nat) (d : Nat) (x : EqV) : Prop :=
  ∀ (ρ : Ren) (a b : V) (u v : Value) (q : Bool → Bool) (w : World) (n : Nat), d ≤ n → RelV ρ a u → RelV ρ b v → x.run a b q = true → ∃ c, q c = true ∧ (Op.equalIn n t u v).run P w = .ok c w

theorem eqOk_bad {t d : Nat} : EqOk P t d eqBad := fun _ _ _ _ _ _ _ _ _ _ _ h => absurd h (by simp [eqBad])

theorem eqV_ok (hC : CtxOk P C) : ∀ (d t : Nat), EqOk P t d (eqV C d t)
  | 0, t => eqOk_bad
  | d + 1, t => by
    have IH := eqV_ok hC d
    unfold eqV
    split
    · exact eqOk_bad
    · rename_i ti hti
      obtain ⟨inf, h1, h2, h3⟩ := ty_some hC hti
      split
      · rename_i k hdesc
        rw [hdesc] at h3
        intro ρ a b u v q w n hn ha hb h
        obtain ⟨n, rfl⟩ : ∃ m, n = m + 1 := ⟨n - 1, by omega⟩
        obtain ⟨kk, x, y, rfl, rfl, h⟩ := eqI_rel ha hb h
        exact ⟨_, h, run_equalIn_int w n t kk k x y h3⟩
      · rename_i hdesc
        rw [hdesc] at h3
        intro ρ a b u v q w n hn ha hb h
        obtain ⟨n, rfl⟩ : ∃ m, n = m + 1 := ⟨n - 1, by omega⟩
        obtain ⟨x, y, rfl, rfl, h⟩ := eqT_rel ha hb h
        exact ⟨_, h, by rw [run_equalIn_string w n t x y h3, beq_toListBytes]⟩
      · rename_i hdesc
        rw [hdesc] at h3
        intro ρ a b u v q w n hn ha hb h
        obtain ⟨n, rfl⟩ : ∃ m, n = m + 1 := ⟨n - 1, by omega⟩
        obtain ⟨x, y, rfl, rfl, h⟩ := eqB_rel ha hb h
        exact ⟨_, h, run_equalIn_bool' w n t x y h3⟩
      · rename_i fs hdesc
        rw [hdesc] at h3
        split
        · exact eqOk_bad
        · rename_i hst
          have hst' : P.stoodInHeld t = false := by rw [← (hC.eq t ti hti).1]; exact hst
          intro ρ a b u v q w n hn ha hb h
          obtain ⟨n, rfl⟩ : ∃ m, n = m + 1 := ⟨n - 1, by omega⟩
          obtain ⟨xs, xv, rfl, rfl, x1, x2, h⟩ := onAgg_rel ha h
          obtain ⟨ys, yv, rfl, rfl, y1, y2, h⟩ := onAgg_rel hb h
          have hfs : P.fieldsOf t = fs := by simp [Program.fieldsOf, h3]
          rw [run_equalIn_agg w n t xv yv (by rw [hfs]; exact h3) hst', hfs]
          clear hfs hst hst' h3 hdesc
          generalize fs.toList = l at h
          induction l with
          | nil => exact ⟨true, h, rfl⟩
          | cons f l ih =>
            rw [foldL_cons] at h
            split at h
            · rename_i fi hnm hfi
              obtain ⟨inf, g1, g2, g3⟩ := ty_some hC hfi
              have hnm : f.name ≠ "_" := by simpa using hnm
              have h : partK (aggD fi.desc) fi.sz xs f.offset (fun x => partK (aggD fi.desc) fi.sz ys f.offset (fun y => (eqV C d f.type).run x y (fun c => ifb c ((foldL (⟨fun _ _ q => q true⟩ : EqF) (fun f _ r => match decide (f.name = "_"), C.ty f.type with
                | false, some fi => eqField (eqV C d f.type) (aggD fi.desc) fi.sz f.offset r
                | _, _ => fldBad) l).run xs ys q) (q false)))) = true := h
              rw [← g2] at h
              obtain ⟨V1, v1, h, r1, _, p1⟩ := part_rel (w := w) g1 g3 x1 x2 h
              obtain ⟨V2, v2, h, r2, _, p2⟩ := part_rel (w := w) g1 g3 y1 y2 h
              obtain ⟨c, h, p3⟩ := IH f.type ρ V1 V2 v1 v2 _ w n (by omega) r1 r2 h
              rcases ifb_true.1 h with ⟨rfl, h⟩ | ⟨rfl, h⟩
              · obtain ⟨c', h4, h5⟩ := ih h
                refine ⟨c', h4, ?_⟩
                simp only [Op.eqFields, if_pos hnm, Sem.run_bind, p1, p2, p3, Result.andThen_ok]
                simpa using h5
              · refine ⟨false, h, ?_⟩
                simp only [Op.eqFields, if_pos hnm, Sem.run_bind, p1, p2, p3, Result.andThen_ok]
                simp
            · exact absurd h (by simp [fldBad])
      · rename_i m el hdesc
        rw [hdesc] at h3
        split
        · exact eqOk_bad
        · rename_i ei hei
          obtain ⟨inf, g1, g2, g3⟩ := ty_some hC hei
          intro ρ a b u v q w n hn ha hb h
          obtain ⟨n, rfl⟩ : ∃ m, n = m + 1 := ⟨n - 1, by omega⟩
          obtain ⟨xs, xv, rfl, rfl, x1, x2, h⟩ := onAgg_rel ha h
          obtain ⟨ys, yv, rfl, rfl, y1, y2, h⟩ := onAgg_rel hb h
          rw [run_equalIn_array w n xv yv h3 g1, cellsOf_size g1]
          generalize List.range m = l at h
          induction l with
          | nil => exact ⟨true, h, rfl⟩
          | cons i l ih =>
            rw [foldL_cons] at h
            have h : partK (aggD ei.desc) ei.sz xs (i * ei.sz) (fun x => partK (aggD ei.desc) ei.sz ys (i * ei.sz) (fun y => (eqV C d el).run x y (fun c => ifb c ((foldL (⟨fun _ _ q => q true⟩ : EqF) (fun i _ r => eqField (eqV C d el) (aggD ei.desc) ei.sz (Nat.mul i ei.sz) r) l).run xs ys q) (q false)))) = true := h
            rw [← g2] at h
            obtain ⟨V1, v1, h, r1, _, p1⟩ := part_rel (w := w) g1 g3 x1 x2 h
            obtain ⟨V2, v2, h, r2, _, p2⟩ := part_rel (w := w) g1 g3 y1 y2 h
            obtain ⟨c, h, p3⟩ := IH el ρ V1 V2 v1 v2 _ w n (by omega) r1 r2 h
            rcases ifb_true.1 h with ⟨rfl, h⟩ | ⟨rfl, h⟩
            · rw [g2] at h
              obtain ⟨c', h4, h5⟩ := ih h
              refine ⟨c', h4, ?_⟩
              simp only [Op.eqItems, Sem.run_bind, p1, p2, p3, Result.andThen_ok]
              simpa using h5
            · refine ⟨false, h, ?_⟩
              simp only [Op.eqItems, Sem.run_bind, p1, p2, p3, Result.andThen_ok]
              simp
      · exact eqOk_bad

/-- What == says of two values, and !=. -/
structure Eqs (P : Program) (t : TypeId) (x y : Operand) (u v : Value) (w : World) (c : Bool) : Prop where
  eql : (binOp .eql t u v).run P w = .ok (.bool c) w
  neq : (binOp .neq t u v).run P w = .ok (.bool (!c)) w
  guard : ∀ op, (eqGuard op t x y u v).run P w = .ok () w

theorem eqs_equal {t : TypeId} {x y : Operand} {u v : Value} {w : World} {c : Bool} (hb1 : binOp .eql t u v = (do pure (.bool (← Op.equal t u v)) : Sem Value)) (hb2 : binOp .neq t u v = (do pure (.bool (!(← Op.equal t u v))) : Sem Value))
    (h : (Op.equalIn 10000 t u v).run P w = .ok c w) (hg : ∀ op, (eqGuard op t x y u v).run P w = .ok () w) : Eqs P t x y u v w c := by
  have h' : (Op.equal t u v).run P w = .ok c w := h
  exact ⟨by rw [hb1]; simp [h'], by rw [hb2]; simp [h'], hg⟩

theorem nil_val {d : TypeDesc} {y : Operand} (h : isNilC d y = true) : ∃ v, y = .const v ∧
    ((∃ e, d = .pointer e ∧ v = .pointer none) ∨ (∃ e, d = .slice e ∧ v = .slice none 0 0) ∨ (∃ k e, d = .map k e ∧ v = .map none) ∨ (∃ a b c, d = .func a b c ∧ v = .nilFunc) ∨ (∃ m, d = .interface m ∧ v = .nilIface)) := by
  unfold isNilC at h
  split at h
  · exact ⟨_, rfl, .inl ⟨_, rfl, rfl⟩⟩
  · exact ⟨_, rfl, .inr (.inl ⟨_, rfl, rfl⟩)⟩
  · exact ⟨_, rfl, .inr (.inr (.inl ⟨_, _, rfl, rfl⟩))⟩
  · exact ⟨_, rfl, .inr (.inr (.inr (.inl ⟨_, _, _, rfl, rfl⟩)))⟩
  · exact ⟨_, rfl, .inr (.inr (.inr (.inr ⟨_, rfl, rfl⟩)))⟩
  · cases h

theorem at9999 {t : TypeId} {u v : Value} {w : World} {c : Bool} (h : ∀ n : Nat, (Op.equalIn (n + 1) t u v).run P w = .ok c w) : (Op.equalIn 10000 t u v).run P w = .ok c w := h 9999

/- A value against its type's nil, on either side. -/
theorem nil_ptr {t : TypeId} {e : TypeId} {x y : Operand} {V : V} {u : Value} {w : World} {q : Bool → Bool} (hd : P.underlying t = some (.pointer e)) (hu : RelV ρ V u) (hq : V.nilPtr q = true)
    (hcm : (∃ z, x = .const z) ∨ ∃ z, y = .const z) : ∃ c, q c = true ∧ Eqs P t x y u (.pointer none) w c ∧ Eqs P t x y (.pointer none) u w c := by
  cases V <;> simp only [Ev.V.nilPtr] at hq <;> first | (simp at hq; done) | skip
  all_goals cases hu
  all_goals refine ⟨_, hq, eqs_equal rfl rfl ?_ (fun op => ?_), eqs_equal rfl rfl ?_ (fun op => ?_)⟩
  all_goals first
    | (refine at9999 (fun n => ?_); simp only [Op.equalIn, Sem.run_bind, run_und hd, Result.andThen_ok]; rfl)
    | (unfold eqGuard; cases op <;> simp)
theorem nil_sl {t : TypeId} {e : TypeId} {x y : Operand} {V : V} {u : Value} {w : World} {q : Bool → Bool} (hd : P.underlying t = some (.slice e)) (hu : RelV ρ V u) (hq : V.nilSl q = true)
    (hcm : (∃ z, x = .const z) ∨ ∃ z, y = .const z) : ∃ c, q c = true ∧ Eqs P t x y u (.slice none 0 0) w c ∧ Eqs P t x y (.slice none 0 0) u w c := by
  cases V <;> simp only [Ev.V.nilSl] at hq <;> first | (simp at hq; done) | skip
  all_goals cases hu
  all_goals refine ⟨_, hq, eqs_equal rfl rfl ?_ (fun op => ?_), eqs_equal rfl rfl ?_ (fun op => ?_)⟩
  all_goals first
    | (refine at9999 (fun n => ?_); simp only [Op.equalIn, Sem.run_bind, run_und hd, Result.andThen_ok]; rfl)
    | (unfold eqGuard; cases op <;> simp)
theorem nil_map {t : TypeId} {k e : TypeId} {x y : Operand} {V : V} {u : Value} {w : World} {q : Bool → Bool} (hd : P.underlying t = some (.map k e)) (hu : RelV ρ V u) (hq : V.nilMap q = true)
    (hcm : (∃ z, x = .const z) ∨ ∃ z, y = .const z) : ∃ c, q c = true ∧ Eqs P t x y u (.map none) w c ∧ Eqs P t x y (.map none) u w c := by
  cases V <;> simp only [Ev.V.nilMap] at hq <;> first | (simp at hq; done) | skip
  all_goals cases hu
  all_goals refine ⟨_, hq, eqs_equal rfl rfl ?_ (fun op => ?_), eqs_equal rfl rfl ?_ (fun op => ?_)⟩
  all_goals first
    | (refine at9999 (fun n => ?_); simp only [Op.equalIn, Sem.run_bind, run_und hd, Result.andThen_ok]; rfl)
    | (unfold eqGuard; cases op <;> simp)
theorem nil_fn {t : TypeId} {ps rs : Array TypeId} {vd : Bool} {x y : Operand} {V : V} {u : Value} {w : World} {q : Bool → Bool} (hd : P.underlying t = some (.func ps rs vd)) (hu : RelV ρ V u) (hq : V.nilFn q = true)
    (hcm : (∃ z, x = .const z) ∨ ∃ z, y = .const z) : ∃ c, q c = true ∧ Eqs P t x y u (.nilFunc) w c ∧ Eqs P t x y (.nilFunc) u w c := by
  cases V <;> simp only [Ev.V.nilFn] at hq <;> first | (simp at hq; done) | skip
  all_goals cases hu
  all_goals refine ⟨_, hq, eqs_equal rfl rfl ?_ (fun op => ?_), eqs_equal rfl rfl ?_ (fun op => ?_)⟩
  all_goals first
    | (refine at9999 (fun n => ?_); simp only [Op.equalIn, Sem.run_bind, run_und hd, Result.andThen_ok]; rfl)
    | (unfold eqGuard; cases op <;> simp)
theorem nil_if {t : TypeId} {ms : Array (String × TypeId)} {x y : Operand} {V : V} {u : Value} {w : World} {q : Bool → Bool} (hd : P.underlying t = some (.interface ms)) (hu : RelV ρ V u) (hq : V.nilIf q = true)
    (hcm : (∃ z, x = .const z) ∨ ∃ z, y = .const z) : ∃ c, q c = true ∧ Eqs P t x y u (.nilIface) w c ∧ Eqs P t x y (.nilIface) u w c := by
  rcases hcm with ⟨zz, rfl⟩ | ⟨zz, rfl⟩ <;> cases V <;> simp only [Ev.V.nilIf] at hq <;> first | (simp at hq; done) | skip
  all_goals cases hu
  all_goals refine ⟨_, hq, eqs_equal rfl rfl ?_ (fun op => ?_), eqs_equal rfl rfl ?_ (fun op => ?_)⟩
  all_goals first
    | (refine at9999 (fun n => ?_); simp only [Op.equalIn, Sem.run_bind, run_und hd, Result.andThen_ok]; rfl)
    | (unfold eqGuard; cases op <;> simp)

theorem nilK_rel {t : TypeId} {d : TypeDesc} {x y : Operand} {V : V} {u v : Value} {w : World} {q : Bool → Bool} (hd : P.underlying t = some d) (hu : RelV ρ V u) (hq : (nilK d).run V q = true)
    (hv : (∃ e, d = .pointer e ∧ v = .pointer none) ∨ (∃ e, d = .slice e ∧ v = .slice none 0 0) ∨ (∃ k e, d = .map k e ∧ v = .map none) ∨ (∃ a b c, d = .func a b c ∧ v = .nilFunc) ∨ (∃ m, d = .interface m ∧ v = .nilIface))
    (hcm : (∃ z, x = .const z) ∨ ∃ z, y = .const z) : ∃ c, q c = true ∧ Eqs P t x y u v w c ∧ Eqs P t x y v u w c := by
  rcases hv with ⟨e, rfl, rfl⟩ | ⟨e, rfl, rfl⟩ | ⟨k, e, rfl, rfl⟩ | ⟨a, b, c, rfl, rfl⟩ | ⟨m, rfl, rfl⟩
  · exact nil_ptr hd hu hq hcm
  · exact nil_sl hd hu hq hcm
  · exact nil_map hd hu hq hcm
  · exact nil_fn hd hu hq hcm
  · exact nil_if hd hu hq hcm

theorem eqs_int {t : TypeId} {x y : Operand} {k : IntKind} {m n : Int} {w : World} : Eqs P t x y (.int k m) (.int k n) w (m == n) :=
  ⟨by simp [binOp, Op.intCmp], by simp [binOp, Op.intCmp, bne], fun _ => eqGuard_int⟩
theorem eqs_str {t : TypeId} {x y : Operand} {m n : ByteArray} {w : World} : Eqs P t x y (.string m) (.string n) w (m == n) :=
  ⟨by simp [binOp, Op.stringOp, beq_toListBytes], by simp [binOp, Op.stringOp, beq_toListBytes], fun _ => eqGuard_str⟩
theorem eqs_bool {t : TypeId} {x y : Operand} {m n : Bool} {w : World} (h : P.underlying t = some .bool) : Eqs P t x y (.bool m) (.bool n) w (m == n) :=
  eqs_equal rfl rfl (run_equalIn_bool' w 9999 t m n h) (fun op => by unfold eqGuard; cases op <;> simp)

theorem nilPtr_rel {V : V} {u : Value} {q : Bool → Bool} (hr : RelV ρ V u) (h : V.nilPtr q = true) : ∃ r, u = .pointer r ∧ q r.isNone = true := by
  cases hr <;> simp only [V.nilPtr] at h <;> first | (simp at h; done) | exact ⟨_, rfl, h⟩

theorem eqK_rel (hC : CtxOk P C) {t : Nat} {x y : Operand} {e : Env} {h : Heap} {a : Act} {w : World} {q : Bool → Bool} (hE : EnvRel ρ e a.tmps) (hx : (eqK C t x y).run e h q = true) : ∃ c, q c = true ∧ Eqs P t x y (a.eval x) (a.eval y) w c := by
  have rx := opnd_rel hE x
  have ry := opnd_rel hE y
  unfold eqK at hx
  split at hx
  · exact absurd hx (by simp)
  · rename_i ti hti
    obtain ⟨_, _, _, h3⟩ := ty_some hC hti
    split at hx
    · rename_i _ hy
      obtain ⟨v, rfl, hv⟩ := nil_val hy
      obtain ⟨c, h1, h2, _⟩ := nilK_rel (x := x) (y := .const v) (w := w) h3 rx hx hv (.inr ⟨v, rfl⟩)
      exact ⟨c, h1, h2⟩
    · have hxn : isNilC ti.desc x = true := by assumption
      obtain ⟨v, rfl, hv⟩ := nil_val hxn
      obtain ⟨c, h1, _, h2⟩ := nilK_rel (x := .const v) (y := y) (w := w) h3 ry hx hv (.inl ⟨v, rfl⟩)
      exact ⟨c, h1, h2⟩
    · split at hx
      · rename_i hd
        rw [hd] at h3
        have hx : (eqV C 1 t).run ((opnd x).get e) ((opnd y).get e) q = true := hx
        unfold eqV at hx
        rw [hti] at hx
        simp only [hd] at hx
        obtain ⟨m, n, h1, h2, h4⟩ := eqB_rel rx ry hx
        rw [h1, h2]
        exact ⟨_, h4, eqs_bool h3⟩
      · rename_i k hd
        have hx : (eqV C 1 t).run ((opnd x).get e) ((opnd y).get e) q = true := hx
        unfold eqV at hx
        rw [hti] at hx
        simp only [hd] at hx
        obtain ⟨k, m, n, h1, h2, h4⟩ := eqI_rel rx ry hx
        rw [h1, h2]
        exact ⟨_, h4, eqs_int⟩
      · rename_i hd
        have hx : (eqV C 1 t).run ((opnd x).get e) ((opnd y).get e) q = true := hx
        unfold eqV at hx
        rw [hti] at hx
        simp only [hd] at hx
        obtain ⟨m, n, h1, h2, h4⟩ := eqT_rel rx ry hx
        rw [h1, h2]
        exact ⟨_, h4, eqs_str⟩
      · rename_i fs hd
        split at hx
        · exact absurd hx (by simp)
        · rename_i hg
          have hx : V.onAgg ((opnd x).get e) (fun _ => V.onAgg ((opnd y).get e) (fun _ => (eqV C 20 t).run ((opnd x).get e) ((opnd y).get e) q)) = true := hx
          obtain ⟨cs, xs, _, hu, _, _, hx⟩ := onAgg_rel rx hx
          obtain ⟨ds, ys, _, hv, _, _, hx⟩ := onAgg_rel ry hx
          rw [hu] at rx
          rw [hv] at ry
          obtain ⟨c, h4, h5⟩ := eqV_ok hC 20 t ρ _ _ _ _ q w 10000 (by omega) rx ry hx
          rw [hu, hv]
          exact ⟨c, h4, eqs_equal rfl rfl h5 (fun op => run_eqGuard_agg w op t x y xs ys (by rw [← (hC.eq t ti hti).2]; exact hg))⟩
      · rename_i n el hd
        split at hx
        · exact absurd hx (by simp)
        · rename_i hg
          have hx : V.onAgg ((opnd x).get e) (fun _ => V.onAgg ((opnd y).get e) (fun _ => (eqV C 20 t).run ((opnd x).get e) ((opnd y).get e) q)) = true := hx
          obtain ⟨cs, xs, _, hu, _, _, hx⟩ := onAgg_rel rx hx
          obtain ⟨ds, ys, _, hv, _, _, hx⟩ := onAgg_rel ry hx
          rw [hu] at rx
          rw [hv] at ry
          obtain ⟨c, h4, h5⟩ := eqV_ok hC 20 t ρ _ _ _ _ q w 10000 (by omega) rx ry hx
          rw [hu, hv]
          exact ⟨c, h4, eqs_equal rfl rfl h5 (fun op => run_eqGuard_agg w op t x y xs ys (by rw [← (hC.eq t ti hti).2]; exact hg))⟩
      · rename_i el hd
        rw [hd] at h3
        split at hx
        · rename_i ei hei
          obtain ⟨ie, g1, g2, _⟩ := ty_some hC hei
          split at hx
          · exact absurd hx (by simp)
          · rename_i hz
            have hz' : ie.size ≠ 0 := by rw [g2]; exact fun he => hz he
            have hguard : ∀ (p q : Option Addr) op, (eqGuard op t x y (.pointer p) (.pointer q)).run P w = .ok () w := fun p q op => by unfold eqGuard; cases op <;> simp
            rcases V.ifPtr_true.1 hx with ⟨i, o, hxv, hx⟩ | ⟨_, hx⟩
            · rw [hxv] at rx
              obtain ⟨B, hB, hu⟩ : ∃ B, ρ i = some B ∧ a.eval x = .pointer (some ⟨B.b, o, none⟩) := by
                generalize a.eval x = vx at *
                cases rx with | ptr _ _ B hB => exact ⟨B, hB, rfl⟩
              rcases V.ifPtr_true.1 hx with ⟨j, p, hyv, hx⟩ | ⟨_, hx⟩
              · rw [hyv] at ry
                obtain ⟨B', hB', hv⟩ : ∃ B, ρ j = some B ∧ a.eval y = .pointer (some ⟨B.b, p, none⟩) := by
                  generalize a.eval y = vy at *
                  cases ry with | ptr _ _ B hB => exact ⟨B, hB, rfl⟩
                obtain ⟨hij, hx2⟩ := ifb_and.1 hx
                have hij := Nat.eq_of_beq_eq_true hij
                subst hij
                rw [hB] at hB'; cases hB'
                rw [hu, hv]
                refine ⟨_, hx2, eqs_equal rfl rfl (at9999 fun n => ?_) (hguard _ _)⟩
                simp only [Op.equalIn, Sem.run_bind, run_und h3, Result.andThen_ok, run_size g1, ne_eq, hz', not_false_eq_true, if_true]
                have e : ((⟨B.b, o, none⟩ : Addr) == ⟨B.b, p, none⟩) = Nat.beq o p := by
                  rw [Bool.eq_iff_iff]; simp
                simp [sameAddr, e]
              · obtain ⟨r, hv, hx⟩ := nilPtr_rel ry hx
                obtain ⟨hr, hx⟩ := ifb_and.1 hx
                obtain rfl : r = none := by cases r with | none => rfl | some r => simp at hr
                rw [hu, hv]
                refine ⟨false, hx, eqs_equal rfl rfl (at9999 fun n => ?_) (hguard _ _)⟩
                simp only [Op.equalIn, Sem.run_bind, run_und h3, Result.andThen_ok]; rfl
            · obtain ⟨r, hu, hx⟩ := nilPtr_rel rx hx
              obtain ⟨hr, hx⟩ := ifb_and.1 hx
              obtain rfl : r = none := by cases r with | none => rfl | some r => simp at hr
              obtain ⟨r, hv, hx⟩ := nilPtr_rel ry hx
              rw [hu, hv]
              refine ⟨_, hx, eqs_equal rfl rfl (at9999 fun n => ?_) (hguard _ _)⟩
              cases r <;> (simp only [Op.equalIn, Sem.run_bind, run_und h3, Result.andThen_ok]; rfl)
        · exact absurd hx (by simp)
      · exact absurd hx (by simp)
end
end Go.Ev
end

section
/- Binary operations whole; conversions of ints and texts; capacities; what is ranged over. -/
namespace Go.Ev
open Go
set_option linter.unusedVariables false
set_option linter.unusedSimpArgs false
section
variable {P : Program} {C : Ctx} {ρ : Ren}

theorem run_bin {o : Oper} {op : BinOp} {t u : TypeId} {x y : Operand} (ho : o.op = .binOp op t x y u) {a : Act} {w : World} {v : Value} (hg : (eqGuard op t x y (a.eval x) (a.eval y)).run P w = .ok () w) (hb : (binOp op t (a.eval x) (a.eval y)).run P w = .ok v w) :
    (execOp a.eval o).run P w = .ok (.value v) w := by
  simp [execOp, ho, hg, hb]

theorem ok_bin {T : Rt → Prop} {o : Oper} {op : BinOp} {t u : TypeId} {x y : Operand} (hC : CtxOk P C) (ho : o.op = .binOp op t x y u) : OpOk T P C (binK C op t x y) o := by
  have hd : ∀ c, o.op ≠ .defer c := by rw [ho]; simp
  unfold binK
  split
  · exact .bad
  · rename_i ti hti
    split
    · refine .pure hd fun ρ e q a w h hE => ?_
      obtain ⟨k, m, n, hu, hv, h⟩ := eqI_rel (opnd_rel hE x) (opnd_rel hE y) h
      obtain ⟨V, h1, h2, h3⟩ := mkB_rel h
      have E := eqs_int (P := P) (t := t) (x := x) (y := y) (k := k) (m := m) (n := n) (w := w)
      exact ⟨V, _, h1, h2, h3, run_bin ho (by rw [hu, hv]; exact E.guard _) (by rw [hu, hv]; exact E.eql)⟩
    · refine .pure hd fun ρ e q a w h hE => ?_
      obtain ⟨k, m, n, hu, hv, h⟩ := eqI_rel (opnd_rel hE x) (opnd_rel hE y) h
      obtain ⟨V, h1, h2, h3⟩ := mkB_rel h
      rw [notB_eq] at h2
      have E := eqs_int (P := P) (t := t) (x := x) (y := y) (k := k) (m := m) (n := n) (w := w)
      exact ⟨V, _, h1, h2, h3, run_bin ho (by rw [hu, hv]; exact E.guard _) (by rw [hu, hv]; exact E.neq)⟩
    · refine .still hd fun rt e h k ρ a w hx hE hH => ?_
      obtain ⟨c, hx, E⟩ := eqK_rel (w := w) hC hE hx
      obtain ⟨V, h1, h2, h3⟩ := mkB_rel (ρ := ρ) hx
      exact ⟨V, _, w, h1, h2, run_bin ho (E.guard _) E.eql, rfl⟩
    · refine .still hd fun rt e h k ρ a w hx hE hH => ?_
      obtain ⟨c, hx, E⟩ := eqK_rel (w := w) hC hE hx
      obtain ⟨V, h1, h2, h3⟩ := mkB_rel (ρ := ρ) hx
      rw [notB_eq] at h2
      exact ⟨V, _, w, h1, h2, run_bin ho (E.guard _) E.neq, rfl⟩
    · exact .pure hd (ok_str ho)
    · have fin : ∀ op', o.op = .binOp op' t x y u → (op' ≠ .eql ∧ op' ≠ .neq) → OpOk T P C (arithK op' x y) o := by
        intro op' ho' he
        obtain ⟨f, hf, hp⟩ := arith_ok (P := P) ho' he
        rw [hf]; exact .pure hd hp
      refine fin _ ho ⟨fun h => ?_, fun h => ?_⟩ <;> subst h <;> simp_all
    · exact .bad

theorem ok_cap {T : Rt → Prop} {o : Oper} {t : Nat} {x : Operand} {ts : Array TypeId} (hC : CtxOk P C) (hts : ts[0]? = some t) (ho : o.op = .call { callee := .builtin .cap, args := #[x], argTypes := ts }) : OpOk T P C (capK C t x) o := by
  have hd : ∀ c, o.op ≠ .defer c := by rw [ho]; simp
  unfold capK
  split
  · rename_i ti hti
    obtain ⟨_, _, _, h3⟩ := ty_some hC hti
    split
    · rename_i el hdesc
      rw [hdesc] at h3
      refine .pure hd fun ρ e q a w h hE => ?_
      have hr := opnd_rel hE x
      obtain ⟨cs, hb⟩ := run_builtin (P := P) (a := a) (w := w) ho
      rcases V.sliceOr_true.1 h with ⟨i, p, n, c, hxv, h⟩ | ⟨hxv, h⟩ | ⟨_, h⟩
      · rw [hxv] at hr
        obtain ⟨B, cap, hB, hv, hc, _⟩ := sl_inv hr
        rcases onCp_true.1 h with ⟨m, rfl, h⟩ | ⟨_, _, _, h⟩
        · have hc : cap = m := hc
          subst hc
          obtain ⟨h4, h⟩ := ifb_and.1 h
          refine ⟨_, _, h, .num _ (Nat.le_of_ble_eq_true h4), by simp, ?_⟩
          rw [hb]; simp [builtin, Builtin.cap_, hts, run_und h3, hv, goInt]
        · exact absurd h (by simp)
      · rw [hxv] at hr
        have hv : a.eval x = .slice none 0 0 := by
          generalize a.eval x = vx at *
          cases hr; rfl
        refine ⟨_, _, h, .num 0 (Nat.zero_le _), by simp, ?_⟩
        rw [hb]; simp [builtin, Builtin.cap_, hts, run_und h3, hv, goInt]
      · exact absurd h (by simp)
    · exact .bad
  · exact .bad

theorem ok_rangeStr {T : Rt → Prop} {o : Oper} {t : Nat} {x : Operand} (hC : CtxOk P C) (ho : o.op = .range t x) : OpOk T P C (rangeStrK C t x) o := by
  have hd : ∀ c, o.op ≠ .defer c := by rw [ho]; simp
  unfold rangeStrK
  split
  · rename_i ti hti
    obtain ⟨_, _, _, h3⟩ := ty_some hC hti
    split
    · rename_i hdesc
      rw [hdesc] at h3
      intro rt r e h k ρ a w _ hx hE hH
      have hx : V.onStr ((opnd x).get e) (fun s => hnew (.siter s 0) h (fun i h => k (.ptr i 0) h)) = true := hx
      obtain ⟨s, hs, hx⟩ := onStr_rel (opnd_rel hE x) hx
      obtain ⟨hp', hk, hn, hg⟩ := hnew_spec hx
      obtain ⟨hH', hL⟩ := hH.push (w' := w.alloc (.stringIter s 0)) (B := ⟨w.heap.size, 0, 0⟩) rfl rfl hn hg ⟨s, rfl, rfl⟩
      refine Upon.value hd (w' := w.alloc (.stringIter s 0)) (v := .pointer (some ⟨w.heap.size, 0, none⟩)) ?_ ⟨_, _, _, hk, .ptr _ _ ⟨w.heap.size, 0, 0⟩ (by simp), hH', hL⟩
      simp [execOp, ho, Instr.range, run_und h3, hs]
    · exact .bad
  · exact .bad

theorem wrap_top (k : IntKind) {m : Nat} (h : m < intTop k) : k.wrap (m : Int) = (m : Int) := by
  unfold IntKind.wrap
  cases k <;> simp only [intTop] at h <;> simp only [IntKind.signed, IntKind.bits, Bool.true_and, Bool.false_and, Bool.false_eq_true, if_false] <;>
    first
      | (split <;> rename_i h2 <;> simp only [decide_eq_true_eq, ge_iff_le, decide_eq_false_iff_not, Int.not_le] at h2 <;> omega)
      | omega
end
end Go.Ev
end

section
/- Conversions. -/
namespace Go.Ev
open Go
set_option linter.unusedVariables false
set_option linter.unusedSimpArgs false
section
variable {P : Program} {C : Ctx} {ρ : Ren}

theorem bytesL_rel : ∀ {l : List V} {xs : List Value} {k : List Nat → Bool}, RelL ρ l xs → bytesL l k = true → ∃ ns : List UInt8, k (ns.map (·.toNat)) = true ∧ xs = ns.map (fun b => Value.int .u8 (b.toNat : Int))
  | [], xs, k, hr, h => by rw [hr.unnil]; exact ⟨[], h, rfl⟩
  | v :: l, xs, k, hr, h => by
    obtain ⟨x, xs, rfl, h1, h2⟩ := hr.uncons
    have h : V.onInt v (fun kk n => ifb (beqK kk .u8) (frcI n (fun m => ifb (Nat.blt m 256) (bytesL l (fun t => k (m :: t))) false) (fun _ => false)) false) = true := h
    obtain ⟨kk, n, rfl, h⟩ := onInt_rel h1 h
    obtain ⟨hk, h⟩ := ifb_and.1 h
    have hk := beqK_iff.1 hk
    rcases frcI_true.1 h with ⟨m, rfl, h⟩ | ⟨_, _, h⟩
    · obtain ⟨hm, h⟩ := ifb_and.1 h
      have hm : m < 256 := Nat.le_of_ble_eq_true hm
      obtain ⟨ns, h3, h4⟩ := bytesL_rel h2 h
      have e : (UInt8.ofNat m).toNat = m := by simp; omega
      exact ⟨UInt8.ofNat m :: ns, by rw [List.map_cons, e]; exact h3, by rw [List.map_cons, e, hk, h4]⟩
    · exact absurd h (by simp)

theorem same_self (P : Program) (d : Nat) (u : TypeId) : sameLayout P (d + 1) u u = true := by
  unfold sameLayout
  simp
theorem lies_self {u : TypeId} {cells : Nat} (h0 : 0 < P.cellsOf u) (h1 : P.cellsOf u ≤ cells) : liesAt P P.depth u (cells / P.cellsOf u) 0 u 1 = true := by
  obtain ⟨d, hd⟩ : ∃ d, P.depth = d + 1 := ⟨2 * (P.types.size + Made.depth) + 1, rfl⟩
  rw [hd]
  unfold liesAt
  rw [hd]
  unfold rowAt
  have h2 : 1 ≤ cells / P.cellsOf u := (Nat.le_div_iff_mul_le h0).2 (by omega)
  have h3 : P.cellsOf u ≠ 0 := by omega
  simp [h3, same_self, h2]

theorem push_all (ns : List UInt8) : ∀ b : ByteArray, (ns.map (fun b => (b.toNat : Int))).foldl (fun (r : ByteArray) n => r.push (UInt8.ofNat n.toNat)) b = ⟨b.data ++ ns.toArray⟩ := by
  induction ns with
  | nil => intro b; simp
  | cons c ns ih =>
    intro b
    rw [List.map_cons, List.foldl_cons, ih]
    congr 1
    have e : UInt8.ofNat ((c.toNat : Int).toNat) = c := by simp
    rw [e]
    apply Array.ext'
    simp [ByteArray.data_push]

/-- A row whose first cells are known, and some place behind its end may be marked. -/
theorem new_rowF {hp : Heap} {w w' : World} {el m s z fz : Nat} {zs cs : List V} {xs : List Value} {rest : Array Value} {fr : Nat × Nat} {k : Nat → Heap → Bool} (hH : HeapRel P C ρ hp w) (hr : RelL ρ cs xs) (h1 : ∀ v ∈ cs, v.isOne = true) (hm : cs.length = m) (hz : P.cellsOf el = z)
    (hs : xs.length + rest.size = s * z) (hfr : ∀ j, j < xs.length + rest.size → ¬ (fr.1 ≤ j ∧ j < fr.2)) (hw : w'.heap = w.heap.push (.cells (xs.toArray ++ rest) el fr)) (h : freeRow el m fz zs cs hp k = true) (ha : Aside w w' := by exact ⟨rfl, rfl⟩) :
    ∃ hp', k hp.nx hp' = true ∧ HeapRel P C (ext1 ρ hp.nx ⟨w.heap.size, s, z⟩) hp' w' ∧ Le ρ hp w (ext1 ρ hp.nx ⟨w.heap.size, s, z⟩) hp' w' := by
  unfold freeRow at h
  obtain ⟨c, h, hc⟩ := emptyC_spec h
  obtain ⟨c', h, hc'⟩ := layC_spec h
  obtain ⟨hp', hk, hn, hg⟩ := hnew_spec h
  have hren : ∀ i D, ρ i = some D → ext1 ρ hp.nx ⟨w.heap.size, s, z⟩ i = some D := fun i D hi => by
    unfold ext1
    rw [if_neg (by have := (hH.dom i D hi).1; omega)]; exact hi
  have hxs : xs.length = m := by rw [← hr.1]; exact hm
  have hrow : ObjRel P (ext1 ρ hp.nx ⟨w.heap.size, s, z⟩) (.row el m fz false zs c') ⟨w.heap.size, s, z⟩ (some (.cells (xs.toArray ++ rest) el fr)) := by
    refine ⟨xs.toArray ++ rest, fr, rfl, by simp [hs], hz, by simp [hxs], fun h => by simp at h, fun j _ hj => hfr j (by simpa using hj), fun j hj => ?_⟩
    have hj1 : j < cs.length := by omega
    have hj2 : j < xs.length := by omega
    have hv1 := h1 _ (List.getElem_mem hj1)
    refine ⟨cs[j], xs[j], cellV_set ?_ (fun he => by rw [he] at hv1; simp [V.isOne] at hv1), ?_, hv1, (hr.2 j _ _ (List.getElem?_eq_getElem hj1) (List.getElem?_eq_getElem hj2)).mono hren⟩
    · rw [hc' j, if_pos (by omega)]
      simp [hj1]
    · rw [Array.getElem?_append_left (by simpa using hj2)]
      simp [hj2]
  exact ⟨hp', hk, hH.push hw rfl hn hg hrow ha⟩

theorem bytes_relL (s : ByteArray) : RelL ρ ((bytesOf s).map fun b => V.ik .u8 (.ofNat b)) (s.data.toList.map fun b => Value.int .u8 b.toNat) := by
  refine ⟨by simp [bytesOf], fun i u v hu hv => ?_⟩
  unfold bytesOf at hu
  rw [List.map_map, List.getElem?_map] at hu
  rw [List.getElem?_map] at hv
  cases h : s.data.toList[i]? with
  | none => rw [h] at hu; cases hu
  | some b =>
    rw [h] at hu hv
    simp only [Option.map_some, Option.some.injEq] at hu hv
    subst hu hv
    exact .ik _ _

theorem ok_conv {T : Rt → Prop} {o : Oper} {src dst : Nat} {x : Operand} (hC : CtxOk P C) (ho : o.op = .convert src dst x) : OpOk T P C (convK C src dst x) o := by
  have hd : ∀ c, o.op ≠ .defer c := by rw [ho]; simp
  unfold convK
  split
  · rename_i si di hsi hdi
    obtain ⟨_, _, _, u1⟩ := ty_some hC hsi
    obtain ⟨_, _, _, u2⟩ := ty_some hC hdi
    split
    · rename_i k0 k hsd hdd
      rw [hsd] at u1
      rw [hdd] at u2
      refine .pure hd fun ρ e q a w h hE => ?_
      obtain ⟨kk, n, hv, h⟩ := onInt_rel (opnd_rel hE x) h
      have fin : ∀ n' : Int, k.wrap n = n' → mkI k n' q = true → ∃ V v, q V = true ∧ RelV ρ V v ∧ V ≠ .undef ∧ (execOp a.eval o).run P w = .ok (.value v) w := by
        intro n' hw h
        obtain ⟨V, h1, h2, h3⟩ := mkI_rel h
        refine ⟨V, _, h1, h2, h3, ?_⟩
        simp [execOp, ho, convert, run_und u1, run_und u2, hv, Conv.intToInt, hw]
      rcases frcI_true.1 h with ⟨m, rfl, h⟩ | ⟨m, rfl, h⟩
      · rcases ifb_true.1 h with ⟨h4, h⟩ | ⟨_, h⟩
        · exact fin m (wrap_top k (Nat.le_of_ble_eq_true h4)) h
        · exact fin _ rfl h
      · exact fin _ rfl h
    · rename_i hsd hdd
      rw [hsd] at u1
      rw [hdd] at u2
      refine .pure hd fun ρ e q a w h hE => ?_
      obtain ⟨s, hv, h⟩ := onStr_rel (opnd_rel hE x) h
      exact ⟨_, _, h, .str s, by simp, by simp [execOp, ho, convert, run_und u1, run_und u2, hv]⟩
    · rename_i el hsd hdd
      rw [hsd] at u1
      rw [hdd] at u2
      split
      · rename_i ei hei
        obtain ⟨ie, g1, g2, u3⟩ := ty_some hC hei
        split
        · rename_i hed
          rw [hed] at u3
          have hone : ei.sz = 1 := hC.one el ei hei (by rw [hed]; rfl)
          intro rt r e h k ρ a w _ hx hE hH
          obtain ⟨s, hv, hx⟩ := onStr_rel (opnd_rel hE x) hx
          rw [frcApp_eq, frc_eq, lenL_eq, List.append_nil] at hx
          have hx : freeRow el ((bytesOf s).map fun b => V.ik .u8 (.ofNat b)).length 0 ei.zeros ((bytesOf s).map fun b => V.ik .u8 (.ofNat b)) h (fun i h => k (.sl i 0 ((bytesOf s).map fun b => V.ik .u8 (.ofNat b)).length (.less 0 1)) h) = true := hx
          have hrun := run_bytes_of_string (P := P) w src dst el s u1 u2 u3
          have hl1 : (s.data.toList.map fun b => Value.int .u8 b.toNat).length = s.size := by rw [List.length_map]; exact Array.length_toList
          have hcap := grownCap_ge w s.size 0 el
          have hsz : (bytesRow s (grownCap w s.size 0 el)).size = grownCap w s.size 0 el := by
            unfold bytesRow
            simp
            have : s.data.size = s.size := rfl
            omega
          have hbl : ((bytesOf s).map fun b => V.ik .u8 (.ofNat b)).length = s.size := by unfold bytesOf; rw [List.length_map, List.length_map]; exact Array.length_toList
          obtain ⟨hp', hk, hH', hL⟩ := new_rowF (w' := w.drew.alloc (.cells (bytesRow s (grownCap w s.size 0 el)) el ((bytesRow s (grownCap w s.size 0 el)).size, (bytesRow s (grownCap w s.size 0 el)).size + 1))) (s := grownCap w s.size 0 el) (z := 1)
            (rest := Array.replicate (grownCap w s.size 0 el - s.size) (.int .u8 0)) (fr := ((bytesRow s (grownCap w s.size 0 el)).size, (bytesRow s (grownCap w s.size 0 el)).size + 1)) hH (bytes_relL s) (by intro v hv; obtain ⟨b, _, rfl⟩ := List.mem_map.1 hv; rfl) rfl (by rw [cellsOf_size g1, g2, hone])
            (by rw [hl1, Array.size_replicate]; omega) (fun j hj => by rw [hl1, Array.size_replicate] at hj; dsimp only; rw [hsz]; omega) (by
              show w.heap.push _ = _
              congr 2
              unfold bytesRow
              congr 1
              apply Array.ext'
              simp) hx
          refine Upon.value hd (v := .slice (some ⟨w.heap.size, 0, none⟩) s.size (grownCap w s.size 0 el)) ?_ ⟨_, hp', _, hk, ?_, hH', hL⟩
          · simp only [execOp, ho, hv, Sem.run_bind, hrun, Result.andThen_ok, Sem.run_pure]
          · rw [hbl]
            exact .sl _ _ _ _ _ ⟨w.heap.size, grownCap w s.size 0 el, 1⟩ (by simp [ext1]) ⟨rfl, by simp, rfl⟩ (by omega)
        · exact .bad
      · exact .bad
    · rename_i el hsd hdd
      rw [hsd] at u1
      rw [hdd] at u2
      split
      · rename_i ei hei
        obtain ⟨_, _, _, u3⟩ := ty_some hC hei
        split
        · rename_i hed
          rw [hed] at u3
          refine .still hd fun rt e h k ρ a w hx hE hH => ?_
          have hr := opnd_rel hE x
          rcases V.sliceOr_true.1 hx with ⟨i, p, n, c, hxv, hx⟩ | ⟨hxv, hx⟩ | ⟨_, hx⟩
          · rw [hxv] at hr
            obtain ⟨B, cap, hB, hv, _⟩ := sl_inv hr
            obtain ⟨l, xs, hk, h1, h2, h3, h4⟩ := rowGets_rel hH hB hx
            obtain ⟨ns, hk, rfl⟩ := bytesL_rel h1 hk
            have hload := run_loadCells_list (P := P) w ⟨B.b, p, none⟩ _ h4
            have hlen : (ns.map fun b => Value.int .u8 (b.toNat : Int)).length = n := by rw [← h1.1]; exact h3
            rw [hlen] at hload
            have hmm : (ns.map fun b => Value.int .u8 (b.toNat : Int)) = (ns.map fun b => (b.toNat : Int)).map (Value.int .u8) := by simp
            rw [hmm] at hload
            have hrun := run_bytesToString w ⟨B.b, p, none⟩ n cap _ hload
            rw [push_all] at hrun
            refine ⟨.str (ns.map (·.toNat)), .string ⟨ByteArray.empty.data ++ ns.toArray⟩, w, hk, ?_, ?_, rfl⟩
            · have e : bytesOf ⟨ByteArray.empty.data ++ ns.toArray⟩ = ns.map (·.toNat) := by
                show ((#[] ++ ns.toArray : Array UInt8).toList.map _) = _
                simp
              rw [← e]; exact .str _
            · simp [execOp, ho, convert, run_und u1, run_und u2, run_und u3, hv, hrun]
          · rw [hxv] at hr
            have hv : a.eval x = .slice none 0 0 := by
              generalize a.eval x = vx at *
              cases hr; rfl
            refine ⟨.str [], .string .empty, w, hx, .str ByteArray.empty, ?_, rfl⟩
            simp [execOp, ho, convert, run_und u1, run_und u2, run_und u3, hv, Conv.bytesToString]
          · exact absurd hx (by simp)
        · exact .bad
      · exact .bad
    · rename_i pt hsd hdd
      rw [hsd] at u1
      rw [hdd] at u2
      split
      · rename_i ti hti
        obtain ⟨it, g1, g2, _⟩ := ty_some hC hti
        split
        · exact .bad
        · rename_i hz
          have hz' : it.size ≠ 0 := by rw [g2]; exact fun he => hz he
          refine .still hd fun rt e h k ρ a w hx hE hH => ?_
          obtain ⟨i, p, B, hB, hv, hx⟩ := onPtr_rel (opnd_rel hE x) hx
          obtain ⟨ety, n, fz, wh, zz, cc, hg, hx⟩ := O.onRow_true.1 hx
          obtain ⟨h4, hx⟩ := ifb_and.1 hx
          have h4 : p < n := Nat.le_of_ble_eq_true h4
          obtain ⟨cs, fr, r1, _, _, r4, _⟩ := row_inv hH hB hg
          have hsh : w.shape? B.b = some (ety, cs.size) := by simp [World.shape?, r1]
          have hnp : ¬ (cs.size ≤ p) := by omega
          refine ⟨_, _, w, hx, .ptr i p B hB, ?_, rfl⟩
          simp [execOp, ho, convert, run_und u1, run_und u2, hv, Conv.unsafePointer, Conv.seenAt, viewAt, cellsIn, shape, Sem.run, hsh, run_size g1, hz', hnp]
      · exact .bad
    · rename_i u hsd hdd
      rw [hsd] at u1
      rw [hdd] at u2
      split
      · rename_i ui hui
        obtain ⟨iu, g1, g2, _⟩ := ty_some hC hui
        dsimp only
        split
        · exact .bad
        · rename_i hz
          refine .still hd fun rt e h k ρ a w hx hE hH => ?_
          obtain ⟨i, p, B, hB, hv, hx⟩ := onPtr_rel (opnd_rel hE x) hx
          obtain ⟨ety, n, fz, wh, zz, cc, hg, hx⟩ := O.onRow_true.1 hx
          obtain ⟨h4, hx1⟩ := ifb_and.1 hx
          obtain ⟨h5, hx2⟩ := ifb_and.1 hx1
          obtain ⟨h6, hx3⟩ := ifb_and.1 hx2
          have h4 := Nat.eq_of_beq_eq_true h4
          have h5 := Nat.eq_of_beq_eq_true h5
          have h6 := Nat.le_of_ble_eq_true h6
          subst h4 h5
          obtain ⟨cs, fr, r1, _, _, r4, _⟩ := row_inv hH hB hg
          have hsh : w.shape? B.b = some (ety, cs.size) := by simp [World.shape?, r1]
          have hcz : P.cellsOf ety = ui.sz := by rw [cellsOf_size g1, g2]
          have hl := lies_self (P := P) (u := ety) (cells := cs.size) (by rw [hcz]; exact Nat.pos_of_ne_zero (fun he => hz he)) (by rw [hcz]; omega)
          refine ⟨_, _, w, hx3, .ptr i 0 B hB, ?_, rfl⟩
          simp [execOp, ho, convert, run_und u1, run_und u2, hv, Conv.unsafePointer, Conv.seenAt, viewAt, variablesAt, shape, program, Sem.run, hsh, run_size g1, hl]
      · exact .bad
    · exact .bad
  · exact .bad
end
end Go.Ev
end

section
/- Regions whose operations come in order. -/
namespace Go.Ev
open Go
set_option linter.unusedVariables false
set_option linter.unusedSimpArgs false
section
variable {P : Program} {C : Ctx} {ρ : Ren}

/-- A deferred call. -/
inductive DRel (ρ : Ren) : D → Deferred → Prop
  | call (f : Nat) (a : List V) (args cap : Array Value) (h : RelL ρ a (args ++ cap).toList) : DRel ρ (.call f a) { target := .fn (.func f) cap, args := args }
  | collected (i : Nat) (B : Blk) (h : ρ i = some B) : DRel ρ (.collected i) { target := .collected B.b, args := #[] }
theorem DRel.mono {ρ ρ' : Ren} (h : ∀ i B, ρ i = some B → ρ' i = some B) {d : D} {x : Deferred} (r : DRel ρ d x) : DRel ρ' d x := by
  cases r with
  | call f a args cap hl => exact .call f a args cap (hl.mono h)
  | collected i B hb => exact .collected i B (h _ _ hb)

/-- A frame's own state. -/
structure ActOk (ρ : Ren) (nt : Nat) (ds : List D) (e : Env) (a : Act) : Prop where
  env : EnvRel ρ e a.tmps
  size : a.tmps.size = nt
  defers : All2 (DRel ρ) ds a.defers
theorem ActOk.mono {ρ ρ' : Ren} (h : ∀ i B, ρ i = some B → ρ' i = some B) {nt : Nat} {ds : List D} {e : Env} {a : Act} (r : ActOk ρ nt ds e a) : ActOk ρ' nt ds e a :=
  ⟨fun t => (r.env t).mono h, r.size, r.defers.mono fun _ _ => DRel.mono h⟩

theorem put_rel {nt : Nat} {dst : Option Nat} {ds : List D} {e : Env} {a : Act} {V : V} {v : Value} {k : Env → Bool} (h : ActOk ρ nt ds e a) (hv : RelV ρ V v) (hx : (putK nt dst).put V e k = true) :
    ∃ e', k e' = true ∧ ActOk ρ nt ds e' (a.put dst v) := by
  cases dst with
  | none => exact ⟨e, hx, h⟩
  | some d =>
    unfold putK at hx
    simp only at hx
    split at hx
    · rename_i hd
      have hd : d < nt := Nat.le_of_ble_eq_true hd
      obtain ⟨e', hk, he⟩ := ep_put hx
      refine ⟨e', hk, fun t => ?_, by simp [Act.put, h.size], h.defers⟩
      rw [he]
      show RelV ρ _ ((a.tmps.setIfInBounds d v).getD t undef)
      by_cases ht : t = d
      · subst ht
        rw [if_pos rfl]
        have : (a.tmps.setIfInBounds t v).getD t undef = v := by
          rw [Array.getD_eq_getD_getElem?, Array.getElem?_setIfInBounds_self_of_lt (by rw [h.size]; exact hd)]; rfl
        rw [this]; exact hv
      · rw [if_neg ht]
        have : (a.tmps.setIfInBounds d v).getD t undef = a.tmps.getD t undef := by
          rw [Array.getD_eq_getD_getElem?, Array.getElem?_setIfInBounds_ne (fun h => ht h.symm), ← Array.getD_eq_getD_getElem?]
        rw [this]; exact h.env t
    · exact absurd hx (by simp)

/-- What holds behind a region. -/
def Kont (P : Program) (C : Ctx) (ρ : Ren) (h : Heap) (w : World) (nt : Nat) (k : List D → Env → Heap → Bool) (N : Act → World → Prop) : Prop :=
  ∀ ds' e' h' ρ' a' w', k ds' e' h' = true → ActOk ρ' nt ds' e' a' → HeapRel P C ρ' h' w' → Le ρ h w ρ' h' w' → N a' w'

theorem Kont.step {ρ' : Ren} {h h' : Heap} {w w' : World} {nt : Nat} {k : List D → Env → Heap → Bool} {N : Act → World → Prop} (hk : Kont P C ρ h w nt k N) (hl : Le ρ h w ρ' h' w') : Kont P C ρ' h' w' nt k N :=
  fun ds e h ρ a w hx hA hH hL => hk ds e h ρ a w hx hA hH (hl.trans hL)

theorem guard_some {all : List Oper} {ops : Array Oper} (hall : ops.toList = all) {tmps : Array Value} {j g : Nat} (hg : guardDst all j = some g) (hs : g < tmps.size) : yielded ops tmps j = match tmps.getD g undef with | .bool b => some b | _ => none := by
  subst hall
  unfold guardDst at hg
  unfold yielded
  rw [Array.getElem?_toList] at hg
  rw [hg]
  simp only [Option.bind_some]
  rw [Array.getElem?_eq_getElem hs, Array.getD_eq_getD_getElem?, Array.getElem?_eq_getElem hs]
  simp only [Option.getD_some]
  cases tmps[g] <;> rfl

/-- An operation that is carried out, or deferred. -/
theorem step_rel {T : Rt → Prop} {rt : Rt} {nt : Nat} {r : Option Nat} {o : Oper} {rest : RegK} {ds : List D} {e : Env} {h : Heap} {k : List D → Env → Heap → Bool} {a : Act} {w : World} {next : Act → World → Prop} {Q : Exit → Act → World → Prop}
    (hop : ∀ o : Oper, (∀ c, o.op ≠ .defer c) → OpOk T P C (opK C o.op) o) (hT : T rt) (hro : (∃ c, o.op = .defer c) → r = none) (hA : ActOk ρ nt ds e a) (hH : HeapRel P C ρ h w)
    (hx : (stepK C nt o rest).run rt ds e h k = true)
    (hn : ∀ ds' e' h' ρ' a' w', rest.run rt ds' e' h' k = true → ActOk ρ' nt ds' e' a' → HeapRel P C ρ' h' w' → Le ρ h w ρ' h' w' → next a' w') : o.wpIn (fen r) 0 P a w next Q := by
  by_cases hdf : ∃ c, o.op = .defer c
  · obtain ⟨c, hc⟩ := hdf
    obtain rfl := hro ⟨c, hc⟩
    unfold stepK at hx
    rw [hc] at hx
    simp only at hx
    cases hcal : c.callee with
    | value f =>
      rw [hcal] at hx
      have hx : (argsK c.args.toList).run e (fun args => V.onFn ((opnd f).get e) (fun f first cap => frcApp args cap (fun a => frcApp first a (fun a => (putK nt o.dst).put tup0 e (fun e => rest.run rt (.call f a :: ds) e h k)))) (fun _ => false)) = true := hx
      obtain ⟨vs, hx, hvs, _⟩ := args_rel hA.env hx
      rcases V.onFn_true.1 hx with ⟨g, first, cap, hf, hx⟩ | ⟨_, _, hx⟩
      · have hr := opnd_rel hA.env f
        rw [hf] at hr
        obtain ⟨fa, ca, hv, h1, h2⟩ := hr.fn_inv
        rw [frcApp_eq, frcApp_eq] at hx
        have hd' : DRel ρ (.call g (first ++ (vs ++ cap))) { target := .fn (.func g) ca, args := fa ++ c.args.map a.eval } := by
          refine .call g _ _ ca ?_
          have := h1.app (hvs.app h2)
          simpa using this
        obtain ⟨e', hk, hA'⟩ := put_rel (a := { a with defers := { target := .fn (.func g) ca, args := fa ++ c.args.map a.eval } :: a.defers }) (ds := .call g (first ++ (vs ++ cap)) :: ds) ⟨hA.env, hA.size, .cons hd' hA.defers⟩ (RelV.tup_of (x := #[]) .nil) hx
        refine ⟨fun _ _ => trivial, ?_⟩
        have hrun : (o.semAt (fen none).round a.eval).run P w = .ok (.defer { target := .fn (.func g) ca, args := fa ++ c.args.map a.eval }) w := by
          show (execOp a.eval o).run P w = _
          simp [execOp, hc, resolve, hcal, hv, Deferred.ofValue]
        rw [hrun]
        exact hn _ e' h ρ _ w hk hA' hH (Le.refl _ _ _)
      · exact absurd hx (by simp)
    | invoke r n => rw [hcal] at hx; exact absurd hx (by simp)
    | builtin b => rw [hcal] at hx; exact absurd hx (by simp)
  · have hd : ∀ c, o.op ≠ .defer c := fun c hc => hdf ⟨c, hc⟩
    have hx : (opK C o.op).run rt e h (fun v h => (putK nt o.dst).put v e (fun e => rest.run rt ds e h k)) = true := by
      unfold stepK at hx
      split at hx
      · rename_i c hc; exact absurd hc (hd c)
      · exact hx
    refine hop o hd rt r e h _ ρ a w hT hx hA.env hH next Q ?_
    rintro v w' ⟨V, h', ρ', hk, hv, hH', hL⟩
    obtain ⟨e', hk, hA'⟩ := put_rel (hA.mono hL.ren) hv hk
    exact hn ds e' h' ρ' _ w' hk hA' hH' hL

/-- An operation within its region. -/
theorem oper_rel {T : Rt → Prop} {rt : Rt} {nt i : Nat} {r : Option Nat} {ops : Array Oper} {o : Oper} {rest : RegK} {ds : List D} {e : Env} {h : Heap} {k : List D → Env → Heap → Bool} {a : Act} {w : World} {is : List Nat} {Q : Exit → Act → World → Prop}
    (hop : ∀ o : Oper, (∀ c, o.op ≠ .defer c) → OpOk T P C (opK C o.op) o) (hT : T rt) (hro : (∃ c, o.op = .defer c) → r = none) (ho : ops[i]? = some o) (hA : ActOk ρ nt ds e a) (hH : HeapRel P C ρ h w)
    (hx : (operK C nt ops.toList o rest).run rt ds e h k = true)
    (hn : ∀ ds' e' h' ρ' a' w', rest.run rt ds' e' h' k = true → ActOk ρ' nt ds' e' a' → HeapRel P C ρ' h' w' → Le ρ h w ρ' h' w' → wpOpsIn (fen r) 0 P ops Q is a' w') : wpOpsIn (fen r) 0 P ops Q (i :: is) a w := by
  have yes : (stepK C nt o rest).run rt ds e h k = true → Region.wanted o (yielded ops a.tmps) = true → wpOpsIn (fen r) 0 P ops Q (i :: is) a w := by
    intro hx hw
    simp only [wpOpsIn, ho, hw, if_true]
    exact step_rel hop hT hro hA hH hx hn
  have no : (skipOp nt o rest).run rt ds e h k = true → Region.wanted o (yielded ops a.tmps) = false → wpOpsIn (fen r) 0 P ops Q (i :: is) a w := by
    intro hx hw
    simp only [wpOpsIn, ho, hw, Bool.false_eq_true, if_false]
    obtain ⟨e', hk, hA'⟩ := put_rel hA (RelV.tup_of (x := #[]) .nil) hx
    exact ⟨fun _ _ => trivial, hn ds e' h ρ _ w hk hA' hH (Le.refl _ _ _)⟩
  unfold operK at hx
  split at hx
  · rename_i hg
    exact yes hx (by simp [Region.wanted, hg])
  · rename_i j want hg
    split at hx
    · rename_i hgd
      refine no hx ?_
      have : yielded ops a.tmps j = none := by
        unfold guardDst at hgd
        unfold yielded
        rw [Array.getElem?_toList] at hgd
        rw [hgd]; rfl
      simp [Region.wanted, hg, this]
    · rename_i g hgd
      split at hx
      · exact absurd hx (by simp)
      · rename_i hgn
        have hgn : g < nt := Nat.le_of_ble_eq_true hgn
        have hy := guard_some rfl hgd (tmps := a.tmps) (by rw [hA.size]; exact hgn)
        have hr := hA.env g
        generalize hv : a.tmps.getD g undef = v at hr hy
        split at hx
        · have hx : V.guard ((eg g).get e) (fun t => ifb t ((stepK C nt o rest).run rt ds e h k) ((skipOp nt o rest).run rt ds e h k)) = true := hx
          rcases V.guard_true.1 hx with ⟨b, hb, hx⟩ | ⟨cs, hb, hx⟩
          · rw [hb] at hr; cases hr
            cases b with
            | true => exact yes (by simpa [ifb] using hx) (by simp [Region.wanted, hg, hy])
            | false => exact no (by simpa [ifb] using hx) (by simp [Region.wanted, hg, hy])
          · rw [hb] at hr
            obtain ⟨xs, rfl, _⟩ := hr.tup_inv
            exact no (by simpa [ifb] using hx) (by simp [Region.wanted, hg, hy])
        · have hx : V.ifBool ((eg g).get e) (fun t => ifb t ((skipOp nt o rest).run rt ds e h k) ((stepK C nt o rest).run rt ds e h k)) (V.onTup ((eg g).get e) (fun _ => (skipOp nt o rest).run rt ds e h k)) = true := hx
          rcases V.ifBool_true.1 hx with ⟨b, hb, hx⟩ | ⟨_, hx⟩
          · rw [hb] at hr; cases hr
            cases b with
            | true => exact no (by simpa [ifb] using hx) (by simp [Region.wanted, hg, hy])
            | false => exact yes (by simpa [ifb] using hx) (by simp [Region.wanted, hg, hy])
          · obtain ⟨cs, hb, hx⟩ := V.onTup_true.1 hx
            rw [hb] at hr
            obtain ⟨xs, rfl, _⟩ := hr.tup_inv
            exact no hx (by simp [Region.wanted, hg, hy])

/-- A region in order. -/
theorem reg_rel {T : Rt → Prop} {rt : Rt} {nt : Nat} {r : Option Nat} {ops : Array Oper} (hop : ∀ o : Oper, (∀ c, o.op ≠ .defer c) → OpOk T P C (opK C o.op) o) (hT : T rt) (hro : ∀ o ∈ ops.toList, (∃ c, o.op = .defer c) → r = none)
    {k : List D → Env → Heap → Bool} {Q : Exit → Act → World → Prop} :
    ∀ (l : List Oper) (i : Nat) (ρ : Ren) (ds : List D) (e : Env) (h : Heap) (a : Act) (w : World), ops.toList.drop i = l → (regK C nt ops.toList l).run rt ds e h k = true → ActOk ρ nt ds e a → HeapRel P C ρ h w → Kont P C ρ h w nt k (Q .normal) →
      wpOpsIn (fen r) 0 P ops Q (List.range' i l.length) a w
  | [], i, ρ, ds, e, h, a, w, _, hx, hA, hH, hK => hK ds e h ρ a w hx hA hH (Le.refl _ _ _)
  | o :: l, i, ρ, ds, e, h, a, w, hl, hx, hA, hH, hK => by
    have ho : ops[i]? = some o := by
      have : (ops.toList.drop i)[0]? = some o := by rw [hl]; rfl
      rw [List.getElem?_drop] at this
      simpa using this
    have hl' : ops.toList.drop (i + 1) = l := by
      rw [← List.drop_drop, hl]
      rfl
    have hx : (operK C nt ops.toList o (regK C nt ops.toList l)).run rt ds e h k = true := hx
    rw [List.length_cons, List.range'_succ]
    refine oper_rel hop hT (hro o (List.mem_of_getElem? (by simpa using ho))) ho hA hH hx fun ds' e' h' ρ' a' w' hx' hA' hH' hL => ?_
    exact reg_rel hop hT hro l (i + 1) ρ' ds' e' h' a' w' hl' hx' hA' hH' (hK.step hL)
end
end Go.Ev
end

section
/- Code: what it comes to, told by its step. -/
namespace Go.Ev
open Go
set_option linter.unusedVariables false
set_option linter.unusedSimpArgs false
section
variable {P : Program} {C : Ctx} {ρ : Ren}

def exitOf : X → Exit
  | .exit id => .exit id
  | .goto l => .goto l
  | .ret => .ret

/-- The round that a frame is of. -/
def RdOk (ρ : Ren) (rd : Nat) (r : Option Nat) : Prop := (rd = 0 ∧ r = none) ∨ ∃ l B, rd = l + 1 ∧ ρ l = some B ∧ r = some B.b
theorem RdOk.mono {ρ ρ' : Ren} (h : ∀ i B, ρ i = some B → ρ' i = some B) {rd : Nat} {r : Option Nat} (x : RdOk ρ rd r) : RdOk ρ' rd r := by
  rcases x with x | ⟨l, B, h1, h2, h3⟩
  · exact .inl x
  · exact .inr ⟨l, B, h1, h _ _ h2, h3⟩

def KontX (P : Program) (C : Ctx) (ρ : Ren) (h : Heap) (w : World) (nt : Nat) (k : X → List D → Env → Heap → Bool) (Q : Exit → Act → World → Prop) : Prop :=
  ∀ x ds' e' h' ρ' a' w', k x ds' e' h' = true → ActOk ρ' nt ds' e' a' → HeapRel P C ρ' h' w' → Le ρ h w ρ' h' w' → Q (exitOf x) a' w'
theorem KontX.step {ρ' : Ren} {h h' : Heap} {w w' : World} {nt : Nat} {k : X → List D → Env → Heap → Bool} {Q : Exit → Act → World → Prop} (hk : KontX P C ρ h w nt k Q) (hl : Le ρ h w ρ' h' w') : KontX P C ρ' h' w' nt k Q :=
  fun x ds e h ρ a w hx hA hH hL => hk x ds e h ρ a w hx hA hH (hl.trans hL)

/-- A step is code. -/
def CodeOk (T : Rt → Prop) (P : Program) (C : Ctx) (nt : Nat) (x : CodeK) (c : Code) : Prop :=
  ∀ (rt : Rt) (rd : Nat) (r : Option Nat) (ds : List D) (e : Env) (h : Heap) (kn : List D → Env → Heap → Bool) (kx : X → List D → Env → Heap → Bool) (ρ : Ren) (a : Act) (w : World) (Q : Exit → Act → World → Prop), T rt → RdOk ρ rd r →
    x.run rt rd ds e h kn kx = true → ActOk ρ nt ds e a → HeapRel P C ρ h w → Kont P C ρ h w nt kn (Q .normal) → KontX P C ρ h w nt kx Q → c.wpIn (fen r) 0 P Q a w

theorem code_skip {T : Rt → Prop} {nt : Nat} : CodeOk T P C nt skipC .skip :=
  fun rt rd r ds e h kn kx ρ a w Q _ _ hx hA hH hn _ => wpIn_skip (hn ds e h ρ a w hx hA hH (Le.refl _ _ _))
theorem code_label {T : Rt → Prop} {nt l : Nat} : CodeOk T P C nt skipC (.label l) :=
  fun rt rd r ds e h kn kx ρ a w Q _ _ hx hA hH hn _ => wpIn_label (hn ds e h ρ a w hx hA hH (Le.refl _ _ _))
theorem code_bad {T : Rt → Prop} {nt : Nat} {c : Code} : CodeOk T P C nt badC c := fun rt rd r ds e h kn kx ρ a w Q _ _ hx => absurd hx (by simp [badC])
theorem code_exit {T : Rt → Prop} {nt id : Nat} : CodeOk T P C nt (exitC (.exit id)) (.exit id) :=
  fun rt rd r ds e h kn kx ρ a w Q _ _ hx hA hH _ hk => wpIn_exit (hk (.exit id) ds e h ρ a w hx hA hH (Le.refl _ _ _))
theorem code_goto {T : Rt → Prop} {nt l : Nat} : CodeOk T P C nt (exitC (.goto l)) (.goto l) :=
  fun rt rd r ds e h kn kx ρ a w Q _ _ hx hA hH _ hk => wpIn_goto (hk (.goto l) ds e h ρ a w hx hA hH (Le.refl _ _ _))
theorem code_ret {T : Rt → Prop} {nt : Nat} : CodeOk T P C nt (exitC .ret) .ret :=
  fun rt rd r ds e h kn kx ρ a w Q _ _ hx hA hH _ hk => wpIn_ret (hk .ret ds e h ρ a w hx hA hH (Le.refl _ _ _))

theorem code_seq {T : Rt → Prop} {nt : Nat} {x y : CodeK} {c d : Code} (hx : CodeOk T P C nt x c) (hy : CodeOk T P C nt y d) : CodeOk T P C nt (seqC x y) (.seq c d) := by
  intro rt rd r ds e h kn kx ρ a w Q hT hr hrun hA hH hn hk
  refine wpIn_seq (hx rt rd r ds e h _ kx ρ a w _ hT hr hrun hA hH ?_ ?_)
  · intro ds' e' h' ρ' a' w' hrun' hA' hH' hL
    exact hy rt rd r ds' e' h' kn kx ρ' a' w' Q hT (hr.mono hL.ren) hrun' hA' hH' (hn.step hL) (hk.step hL)
  · intro x ds' e' h' ρ' a' w' hrun' hA' hH' hL
    have := hk x ds' e' h' ρ' a' w' hrun' hA' hH' hL
    cases x <;> exact this

theorem code_cond {T : Rt → Prop} {nt : Nat} {x y : CodeK} {c d : Code} {o : Operand} (hx : CodeOk T P C nt x c) (hy : CodeOk T P C nt y d) : CodeOk T P C nt (condC o x y) (.cond o c d) := by
  intro rt rd r ds e h kn kx ρ a w Q hT hr hrun hA hH hn hk
  obtain ⟨b, hb, hrun⟩ := onBool_rel (opnd_rel hA.env o) hrun
  cases b with
  | true => exact wpIn_cond_true hb (hx rt rd r ds e h kn kx ρ a w Q hT hr (by simpa [ifb] using hrun) hA hH hn hk)
  | false => exact wpIn_cond_false hb (hy rt rd r ds e h kn kx ρ a w Q hT hr (by simpa [ifb] using hrun) hA hH hn hk)

theorem code_block {T : Rt → Prop} {nt id : Nat} {x : CodeK} {c : Code} (hx : CodeOk T P C nt x c) : CodeOk T P C nt (blockC id x) (.block id c) := by
  intro rt rd r ds e h kn kx ρ a w Q hT hr hrun hA hH hn hk
  refine wpIn_block (hx rt rd r ds e h kn _ ρ a w _ hT hr hrun hA hH hn ?_)
  intro x ds' e' h' ρ' a' w' hrun' hA' hH' hL
  rcases X.block_true.1 hrun' with ⟨rfl, h1⟩ | ⟨hne, h1⟩
  · show Exit.inBlock id Q (.exit id) a' w'
    simp only [Exit.inBlock, if_true]
    exact hn ds' e' h' ρ' a' w' h1 hA' hH' hL
  · have := hk x ds' e' h' ρ' a' w' h1 hA' hH' hL
    cases x with
    | exit i =>
      have : i ≠ id := fun he => hne (by rw [he])
      show Exit.inBlock id Q (.exit i) a' w'
      simp only [Exit.inBlock, this, if_false]
      assumption
    | goto l => exact this
    | ret => exact this

theorem least {p : Nat → Prop} (h : ∃ n, p n) : ∃ n, p n ∧ ∀ m, p m → n ≤ m := by
  obtain ⟨n, hn⟩ := h
  induction n using Nat.strongRecOn with
  | _ n ih =>
    rcases Classical.em (∃ m, m < n ∧ p m) with ⟨m, hm, hp⟩ | hno
    · exact ih m hm hp
    · exact ⟨n, hn, fun m hm => Nat.le_of_not_lt fun hlt => hno ⟨m, hlt, hm⟩⟩

theorem code_loop {T : Rt → Prop} {nt : Nat} {x : CodeK} {c : Code} (hx : CodeOk T P C nt x c) : CodeOk T P C nt (loopC x) (.loop c) := by
  intro rt rd r ds e h kn kx ρ a w Q hT hr hrun hA hH hn hk
  let J (n : Nat) (a' : Act) (w' : World) : Prop := ∃ ds' e' h' ρ', rounds (fun (_ : List D) (_ : Env) (_ : Heap) => false) (fun r ds e h => x.run rt rd ds e h r kx) n ds' e' h' = true ∧ ActOk ρ' nt ds' e' a' ∧ HeapRel P C ρ' h' w' ∧ Le ρ h w ρ' h' w'
  classical
  let μ (a' : Act) (w' : World) : Nat := if hJ : ∃ n, J n a' w' then Classical.choose (least hJ) else 0
  refine wpIn_loop (fun a' w' => ∃ n, J n a' w') μ ⟨loopFuel, ds, e, h, ρ, hrun, hA, hH, Le.refl _ _ _⟩ ?_
  intro a₁ w₁ hJ
  have hμ : μ a₁ w₁ = Classical.choose (least hJ) := dif_pos hJ
  have hspec := (Classical.choose_spec (least hJ)).1
  generalize hm : Classical.choose (least hJ) = m at hspec hμ
  obtain ⟨ds', e', h', ρ', hrun', hA', hH', hL⟩ := hspec
  cases m with
  | zero => exact absurd hrun' (by simp [rounds])
  | succ m =>
    refine hx rt rd r ds' e' h' _ kx ρ' a₁ w₁ _ hT (hr.mono hL.ren) hrun' hA' hH' ?_ ?_
    · intro ds2 e2 h2 ρ2 a2 w2 hrun2 hA2 hH2 hL2
      have hj : J m a2 w2 := ⟨ds2, e2, h2, ρ2, hrun2, hA2, hH2, hL.trans hL2⟩
      refine ⟨⟨m, hj⟩, ?_⟩
      have hex : ∃ n, J n a2 w2 := ⟨m, hj⟩
      have h1 : μ a2 w2 = Classical.choose (least hex) := dif_pos hex
      rw [h1, hμ]
      exact Nat.lt_of_le_of_lt ((Classical.choose_spec (least hex)).2 m hj) (Nat.lt_succ_self m)
    · intro x2 ds2 e2 h2 ρ2 a2 w2 hrun2 hA2 hH2 hL2
      have := hk x2 ds2 e2 h2 ρ2 a2 w2 hrun2 hA2 hH2 (hL.trans hL2)
      cases x2 <;> exact this

/-- A region in order. -/
theorem code_region {T : Rt → Prop} {fn id : Nat} {ops : Array Oper} (hop : ∀ o : Oper, (∀ c, o.op ≠ .defer c) → OpOk T P C (opK C o.op) o) : CodeOk T P C (ntOf C fn) (regionC C fn id ops false) (.region id ops false) := by
  intro rt rd r ds e h kn kx ρ a w Q hT hr hrun hA hH hn hk
  have fin : (∀ o ∈ ops.toList, (∃ c, o.op = .defer c) → r = none) → (regK C (ntOf C fn) ops.toList ops.toList).run rt ds e h kn = true → (Code.region id ops false).wpIn (fen r) 0 P Q a w := by
    intro hro hx
    refine wpIn_region ?_
    have := reg_rel (P := P) (Q := Q) hop hT hro ops.toList 0 ρ ds e h a w rfl hx hA hH hn
    rw [List.range_eq_range', ← Array.length_toList]
    exact this
  unfold regionC at hrun
  dsimp only at hrun
  split at hrun
  · obtain ⟨h0, hrun⟩ := ifb_and.1 hrun
    have h0 := Nat.eq_of_beq_eq_true h0
    refine fin (fun _ _ _ => ?_) hrun
    rcases hr with ⟨_, hr⟩ | ⟨l, B, h1, _⟩
    · exact hr
    · omega
  · rename_i hnd
    refine fin (fun o ho hc => ?_) hrun
    exfalso
    have := List.any_eq_false.1 hnd o ho
    obtain ⟨c, hc⟩ := hc
    simp [isDefer, hc] at this
end
end Go.Ev
end

section
/- What an operation's step looks at: its operands alone. -/
namespace Go.Ev
open Go
set_option linter.unusedVariables false
set_option linter.unusedSimpArgs false
section
variable {P : Program} {C : Ctx}

theorem dep_args {e e' : Env} : ∀ {l : List Operand} {k : List V → Bool}, (∀ x ∈ l, (opnd x).get e = (opnd x).get e') → (argsK l).run e k = (argsK l).run e' k
  | [], k, _ => rfl
  | x :: l, k, h => by
    show V.live ((opnd x).get e) (fun v => (argsK l).run e (fun vs => k (v :: vs))) = V.live ((opnd x).get e') (fun v => (argsK l).run e' (fun vs => k (v :: vs)))
    rw [h x (by simp)]
    congr 1
    funext v
    exact dep_args fun y hy => h y (by simp [hy])

/-- The operands of parts. -/
def pceOps : List Pce → List Operand
  | [] => []
  | .zero _ :: l => pceOps l
  | .one x :: l => x :: pceOps l
  | .agg _ x :: l => x :: pceOps l
theorem dep_src {e e' : Env} : ∀ {l : List Pce} {k : List V → Bool}, (∀ x ∈ pceOps l, (opnd x).get e = (opnd x).get e') → (srcK l).run e k = (srcK l).run e' k
  | [], k, _ => rfl
  | .zero v :: l, k, h => dep_src (l := l) h
  | .one x :: l, k, h => by
    show V.one ((opnd x).get e) (fun v => (srcK l).run e (fun t => k (v :: t))) = V.one ((opnd x).get e') (fun v => (srcK l).run e' (fun t => k (v :: t)))
    rw [h x (by simp [pceOps])]
    congr 1
    funext v
    exact dep_src fun y hy => h y (by simp [pceOps, hy])
  | .agg n x :: l, k, h => by
    show V.onAgg ((opnd x).get e) (fun cs => ifb (Nat.beq (lenL cs) n) ((srcK l).run e (fun t => frcApp cs t k)) false) = V.onAgg ((opnd x).get e') (fun cs => ifb (Nat.beq (lenL cs) n) ((srcK l).run e' (fun t => frcApp cs t k)) false)
    rw [h x (by simp [pceOps])]
    congr 1
    funext cs
    rw [dep_src (l := l) fun y hy => h y (by simp [pceOps, hy])]
theorem pceOps_zero : ∀ zs : List V, pceOps (zs.map .zero) = []
  | [] => rfl
  | _ :: zs => pceOps_zero zs
theorem pceOps_app : ∀ a b : List Pce, pceOps (a ++ b) = pceOps a ++ pceOps b
  | [], b => rfl
  | .zero _ :: a, b => pceOps_app a b
  | .one x :: a, b => by show x :: pceOps (a ++ b) = _; rw [pceOps_app a b]; rfl
  | .agg _ x :: a, b => by show x :: pceOps (a ++ b) = _; rw [pceOps_app a b]; rfl
theorem srcs_ops : ∀ {ps : List (Nat × Nat × Bool × Operand)} {o : Nat} {zs : List V} {l : List Pce}, srcs ps o zs = some l → ∀ x ∈ pceOps l, x ∈ ps.map (·.2.2.2)
  | [], o, zs, l, h, x, hx => by
    simp only [srcs, Option.some.injEq] at h
    subst h
    rw [pceOps_zero] at hx; cases hx
  | (p, sz, agg, y) :: r, o, zs, l, h, x, hx => by
    simp only [srcs] at h
    split at h
    · rename_i l' _ hl'
      simp only [Option.some.injEq] at h
      subst h
      rw [pceOps_app, pceOps_zero, List.nil_append] at hx
      cases agg with
      | true =>
        change x ∈ y :: pceOps l' at hx
        cases hx with
        | head => simp
        | tail _ hx => have := srcs_ops hl' x hx; simp only [List.map_cons, List.mem_cons]; exact .inr this
      | false =>
        change x ∈ y :: pceOps l' at hx
        cases hx with
        | head => simp
        | tail _ hx => have := srcs_ops hl' x hx; simp only [List.map_cons, List.mem_cons]; exact .inr this
    · cases h
theorem dep_over {e e' : Env} : ∀ {ps : List (Nat × Nat × Bool × Operand)} {l : List V} {k : List V → Bool}, (∀ x ∈ ps.map (·.2.2.2), (opnd x).get e = (opnd x).get e') → (overK ps).run e l k = (overK ps).run e' l k
  | [], l, k, _ => rfl
  | (p, sz, agg, x) :: r, l, k, h => by
    show partCells agg sz x e (fun cs => takeL p l (fun a => dropL (Nat.add p sz) l (fun b => frcApp cs b (fun m => frcApp a m (fun l => (overK r).run e l k))))) = partCells agg sz x e' (fun cs => takeL p l (fun a => dropL (Nat.add p sz) l (fun b => frcApp cs b (fun m => frcApp a m (fun l => (overK r).run e' l k)))))
    have h1 : ∀ l, (overK r).run e l k = (overK r).run e' l k := fun l => dep_over fun y hy => h y (by simp only [List.map_cons, List.mem_cons]; exact .inr hy)
    simp only [h1]
    unfold partCells
    rw [h x (by simp)]
theorem places_ops {ti : TI} : ∀ {parts : List (Nat × Operand)} {ps : List (Nat × Nat × Bool × Operand)}, places C ti parts = some ps → ps.map (·.2.2.2) = parts.map (·.2)
  | [], ps, h => by
    simp only [places, List.mapM_nil] at h
    cases h; rfl
  | (i, x) :: r, ps, h => by
    unfold places at h
    rw [List.mapM_cons] at h
    cases h1 : place C ti (i, x) with
    | none => rw [h1] at h; cases h
    | some p =>
      rw [h1] at h
      cases h2 : List.mapM (place C ti) r with
      | none => rw [h2] at h; cases h
      | some q =>
        rw [h2] at h
        simp only [Option.pure_def, Option.bind_eq_bind, Option.bind_some, Option.some.injEq] at h
        subst h
        have := places_ops (parts := r) h2
        rw [List.map_cons, List.map_cons, this]
        congr 1
        simp only [place] at h1
        repeat' split at h1
        all_goals first | (cases h1; done) | (simp only [Option.some.injEq] at h1; rw [← h1])

theorem dep_eqK {t : Nat} {x y : Operand} {e e' : Env} {h : Heap} {q : Bool → Bool} (hx : (opnd x).get e = (opnd x).get e') (hy : (opnd y).get e = (opnd y).get e') : (eqK C t x y).run e h q = (eqK C t x y).run e' h q := by
  unfold eqK
  repeat' split
  all_goals first | rfl | simp only [hx, hy] | simp only [hx] | simp only [hy]

theorem dep_bin {op : BinOp} {t : Nat} {x y : Operand} {rt : Rt} {e e' : Env} {h : Heap} {k : V → Heap → Bool} (hx : (opnd x).get e = (opnd x).get e') (hy : (opnd y).get e = (opnd y).get e') : (binK C op t x y).run rt e h k = (binK C op t x y).run rt e' h k := by
  unfold binK
  split
  · rfl
  · split
    · simp only [pureK, hx, hy]
    · simp only [pureK, hx, hy]
    · exact dep_eqK hx hy
    · exact dep_eqK hx hy
    · simp only [pureK, hx, hy]
    · unfold arithK
      split <;> simp only [pureK, hx, hy]
    · rfl

theorem dep_bnd {d : Nat} {o : Option Operand} {e e' : Env} {q : Nat → Bool} (h : ∀ x ∈ o.toList, (opnd x).get e = (opnd x).get e') : (bndK d o).run e q = (bndK d o).run e' q := by
  cases o with
  | none => rfl
  | some x => simp only [bndK, h x (by simp)]
theorem dep_hi {n : Nat} {o : Option Operand} {e e' : Env} {q : Nat → Bool} (h : ∀ x ∈ o.toList, (opnd x).get e = (opnd x).get e') : (hiK o).run n e q = (hiK o).run n e' q := by
  cases o with
  | none => rfl
  | some x => simp only [hiK, h x (by simp)]

theorem dep_slice {t : Nat} {x : Operand} {lo hi mx : Option Operand} {rt : Rt} {e e' : Env} {h : Heap} {k : V → Heap → Bool} (hx : (opnd x).get e = (opnd x).get e')
    (hl : ∀ x ∈ lo.toList, (opnd x).get e = (opnd x).get e') (hh : ∀ x ∈ hi.toList, (opnd x).get e = (opnd x).get e') (hm : ∀ x ∈ mx.toList, (opnd x).get e = (opnd x).get e') : (sliceK C t x lo hi mx).run rt e h k = (sliceK C t x lo hi mx).run rt e' h k := by
  have l1 : ∀ d q, (bndK d lo).run e q = (bndK d lo).run e' q := fun d q => dep_bnd hl
  have l2 : ∀ n q, (hiK hi).run n e q = (hiK hi).run n e' q := fun d q => dep_hi hh
  unfold sliceK
  split
  · rfl
  · split
    · rename_i m
      split
      · rename_i hx' _
        have h1 := hh hx' (by simp)
        have h2 := hm m (by simp)
        split <;> first | rfl | simp only [pureK, l1, hx, h1, h2]
      · rfl
    · dsimp only
      repeat' split
      all_goals first | rfl | simp only [pureK, l1, l2, hx]

theorem dep_builtin {b : Builtin} {ts : List Nat} {args : List Operand} {rt : Rt} {e e' : Env} {h : Heap} {k : V → Heap → Bool} (hA : ∀ x ∈ args, (opnd x).get e = (opnd x).get e') : (builtinK C b ts args).run rt e h k = (builtinK C b ts args).run rt e' h k := by
  unfold builtinK
  split
  · rename_i s x
    have h1 := hA s (by simp)
    have h2 := hA x (by simp)
    unfold appendK
    repeat' split
    all_goals first | rfl | simp only [h1, h2]
  · rename_i x
    have h1 := hA x (by simp)
    split
    · unfold lenK
      repeat' split
      all_goals first | rfl | simp only [pureK, h1]
    · rfl
  · rename_i x
    have h1 := hA x (by simp)
    split
    · unfold capK
      repeat' split
      all_goals first | rfl | simp only [pureK, h1]
    · rfl
  · rename_i d s
    have h1 := hA d (by simp)
    have h2 := hA s (by simp)
    unfold copyK
    repeat' split
    all_goals first | rfl | simp only [h1, h2]
  · rename_i m q
    have h1 := hA m (by simp)
    have h2 := hA q (by simp)
    split
    · unfold deleteK
      repeat' split
      all_goals first | rfl | simp only [h1, h2]
    · rfl
  · rename_i x
    have h1 := hA x (by simp)
    unfold clearK
    repeat' split
    all_goals first | rfl | simp only [h1]
  · rename_i x y
    have h1 := hA x (by simp)
    have h2 := hA y (by simp)
    simp only [mmK, pureK, h1, h2]
  · rename_i x y
    have h1 := hA x (by simp)
    have h2 := hA y (by simp)
    simp only [mmK, pureK, h1, h2]
  · rename_i x
    have h1 := hA x (by simp)
    simp only [pureK, h1]
  · rename_i p n
    have h1 := hA p (by simp)
    have h2 := hA n (by simp)
    unfold ustrK
    repeat' split
    all_goals first | rfl | simp only [h1, h2]
  · rfl

theorem dep_call {c : Call} {rt : Rt} {e e' : Env} {h : Heap} {k : V → Heap → Bool} (hA : ∀ x ∈ c.operands, (opnd x).get e = (opnd x).get e') : (callOpK C c).run rt e h k = (callOpK C c).run rt e' h k := by
  have ha : ∀ x ∈ c.args.toList, (opnd x).get e = (opnd x).get e' := fun x hx => hA x (by simp [Call.operands]; right; simpa using hx)
  unfold callOpK
  split
  · exact dep_args ha
  · rename_i f _ hc
    have h1 := hA f (by simp [Call.operands, hc])
    simp only [h1]
    exact dep_args ha
  · exact dep_builtin ha
  · rename_i r name hc
    have h1 := hA r (by simp [Call.operands, hc])
    simp only [h1]
    exact dep_args ha

/-- A step hangs on its operands alone. -/
theorem dep_op {o : Op} {rt : Rt} {e e' : Env} {h : Heap} {k : V → Heap → Bool} (H : ∀ x ∈ o.operands, (opnd x).get e = (opnd x).get e') : (opK C o).run rt e h k = (opK C o).run rt e' h k := by
  unfold opK
  split
  case h_4 op t x y _ => exact dep_bin (H x (by simp [Op.operands])) (H y (by simp [Op.operands]))
  case h_10 c => exact dep_call H
  case h_11 t ps =>
    have hp : ∀ x ∈ ps.toList.map (·.2), (opnd x).get e = (opnd x).get e' := fun x hx => H x (by simpa [Op.operands] using hx)
    unfold buildK
    split
    · split
      · rename_i l hl
        have hpl := places_ops hl
        split
        · rename_i q hq
          simp only [pureK]
          exact dep_src fun x hx => hp x (by rw [← hpl]; exact srcs_ops hq x hx)
        · simp only [pureK]
          exact dep_over fun x hx => hp x (by rw [← hpl]; exact hx)
        · rfl
      · rfl
    · rfl
  case h_14 t n ps =>
    have hp : ∀ x ∈ ps.toList.map (·.2), (opnd x).get e = (opnd x).get e' := fun x hx => H x (by simpa [Op.operands] using hx)
    unfold buildSliceK
    split
    · split
      · split
        · dsimp only
          split
          · rfl
          · split
            · rename_i l hl
              have hpl := places_ops hl
              split
              · rename_i q _ hq _
                dsimp only
                exact dep_src fun x hx => hp x (by rw [← hpl]; exact srcs_ops hq x hx)
              · rfl
            · rfl
        · rfl
      · rfl
    · rfl
  case h_21 fn first cap =>
    split
    · dsimp only [pureK]
      rw [dep_args (e' := e') (fun x hx => H x (by simp [Op.operands]; left; simpa using hx))]
      congr 1
      funext a
      exact dep_args (fun x hx => H x (by simp [Op.operands]; right; simpa using hx))
    · rfl
  case h_25 t x lo hi mx =>
    exact dep_slice (H x (by simp [Op.operands])) (fun y hy => H y (by simp [Op.operands]; simp at hy; exact .inr (.inl hy))) (fun y hy => H y (by simp [Op.operands]; simp at hy; exact .inr (.inr (.inl hy)))) (fun y hy => H y (by simp [Op.operands]; simp at hy; exact .inr (.inr (.inr hy))))
  case h_1 x => simp only [pureK, H x (by simp [Op.operands])]
  case h_2 x => simp only [pureK, H x (by simp [Op.operands])]
  case h_3 c a b => simp only [pureK, H c (by simp [Op.operands]), H a (by simp [Op.operands]), H b (by simp [Op.operands])]
  case h_5 t a =>
    have h1 := H a (by simp [Op.operands])
    unfold loadK
    repeat' split
    all_goals first | rfl | simp only [pureK, h1]
  case h_6 t a x =>
    have h1 := H a (by simp [Op.operands])
    have h2 := H x (by simp [Op.operands])
    unfold storeK
    repeat' split
    all_goals first | rfl | simp only [pureK, h1, h2]
  case h_7 s x f =>
    have h1 := H x (by simp [Op.operands])
    unfold fieldAddrK
    repeat' split
    all_goals first | rfl | simp only [pureK, h1]
  case h_8 x =>
    have h1 := H x (by simp [Op.operands])
    all_goals first | rfl | simp only [pureK, h1]
  case h_9 t x i =>
    have h1 := H x (by simp [Op.operands])
    have h2 := H i (by simp [Op.operands])
    unfold indexAddrK
    repeat' split
    all_goals first | rfl | simp only [pureK, h1, h2]
  case h_12 t =>
    unfold allocK
    repeat' split
    all_goals first | rfl | simp only [pureK]
  case h_13 t x =>
    have h1 := H x (by simp [Op.operands])
    unfold boxK
    repeat' split
    all_goals first | rfl | simp only [pureK, h1]
  case h_15 t ix =>
    have h1 := H t (by simp [Op.operands])
    all_goals first | rfl | simp only [pureK, h1]
  case h_16 t x f =>
    have h1 := H x (by simp [Op.operands])
    unfold fieldK
    repeat' split
    all_goals first | rfl | simp only [pureK, h1]
  case h_17 t x i =>
    have h1 := H x (by simp [Op.operands])
    have h2 := H i (by simp [Op.operands])
    unfold indexK
    repeat' split
    all_goals first | rfl | simp only [pureK, h1, h2]
  case h_18 op q x =>
    have h1 := H x (by simp [Op.operands])
    unfold unK
    repeat' split
    all_goals first | rfl | simp only [pureK, h1]
  case h_19 s d x =>
    have h1 := H x (by simp [Op.operands])
    unfold convK
    repeat' split
    all_goals first | rfl | simp only [pureK, h1]
  case h_20 t x =>
    have h1 := H x (by simp [Op.operands])
    repeat' split
    all_goals first | rfl | simp only [pureK, h1]
  case h_22 t =>
    all_goals first | rfl | simp only [pureK]
  case h_23 t x =>
    have h1 := H x (by simp [Op.operands])
    repeat' split
    all_goals first | rfl | simp only [h1]
  case h_24 t l c =>
    have h1 := H l (by simp [Op.operands])
    have h2 := H c (by simp [Op.operands])
    unfold makeSliceK
    repeat' (first | split | dsimp only)
    all_goals first | rfl | simp only [pureK, h1, h2]
  case h_26 t x i ok =>
    have h1 := H x (by simp [Op.operands])
    have h2 := H i (by simp [Op.operands])
    unfold lookupK
    repeat' split
    all_goals first | rfl | simp only [pureK, h1, h2]
  case h_27 t m q x =>
    have h1 := H m (by simp [Op.operands])
    have h2 := H q (by simp [Op.operands])
    have h3 := H x (by simp [Op.operands])
    unfold updateK
    repeat' split
    all_goals first | rfl | simp only [pureK, h1, h2, h3]
  case h_28 t m q x =>
    have h1 := H m (by simp [Op.operands])
    have h2 := H q (by simp [Op.operands])
    have h3 := H x (by simp [Op.operands])
    unfold updateK
    repeat' split
    all_goals first | rfl | simp only [pureK, h1, h2, h3]
  case h_29 t m q =>
    have h1 := H m (by simp [Op.operands])
    have h2 := H q (by simp [Op.operands])
    unfold entryK
    repeat' split
    all_goals first | rfl | simp only [pureK, h1, h2]
  case h_30 t m s x =>
    have h1 := H m (by simp [Op.operands])
    have h2 := H s (by simp [Op.operands])
    have h3 := H x (by simp [Op.operands])
    unfold entryStoreK
    repeat' split
    all_goals first | rfl | simp only [pureK, h1, h2, h3]
  case h_31 t x =>
    have h1 := H x (by simp [Op.operands])
    unfold rangeStrK
    repeat' split
    all_goals first | rfl | simp only [pureK, h1]
  case h_32 it s =>
    have h1 := H it (by simp [Op.operands])
    unfold nextK
    repeat' split
    all_goals first | rfl | simp only [pureK, h1]
  case h_33 x q t ok =>
    have h1 := H x (by simp [Op.operands])
    unfold assertK
    repeat' split
    all_goals first | rfl | simp only [pureK, h1]
  case h_34 =>
    rfl
end
end Go.Ev
end

section
/- A step hands on one thing at most. Printed by gen_sdv.py. -/
namespace Go.Ev
open Go
set_option linter.unusedVariables false

/-- One thing is handed on, or none. -/
def Lin {β : Type} (g : (β → Bool) → Bool) : Prop := (∃ b, ∀ q, g q = q b) ∨ ∀ q, g q = false
theorem lin_ret {β : Type} (b : β) : Lin (fun q : β → Bool => q b) := .inl ⟨b, fun _ => rfl⟩
theorem lin_no {β : Type} : Lin (fun _ : β → Bool => false) := .inr fun _ => rfl
theorem lin_bind {α β : Type} {g : (α → Bool) → Bool} {F : α → (β → Bool) → Bool} (hg : Lin g) (hF : ∀ a, Lin (F a)) : Lin (fun q => g (fun a => F a q)) := by
  rcases hg with ⟨a, h⟩ | h
  · rcases hF a with ⟨b, h2⟩ | h2
    · exact .inl ⟨b, fun q => (h _).trans (h2 q)⟩
    · exact .inr fun q => (h _).trans (h2 q)
  · exact .inr fun q => h _
theorem lin_ifb {β : Type} {b : Bool} {F G : (β → Bool) → Bool} (hF : Lin F) (hG : Lin G) : Lin (fun q => ifb b (F q) (G q)) := by
  cases b
  · exact hG
  · exact hF
theorem lin_frc {β : Type} {n : Nat} {F : Nat → (β → Bool) → Bool} (hF : ∀ m, Lin (F m)) : Lin (fun q => frc n (fun m => F m q)) := hF n
theorem lin_frcI {β : Type} {n : Int} {F G : Nat → (β → Bool) → Bool} (hF : ∀ m, Lin (F m)) (hG : ∀ m, Lin (G m)) : Lin (fun q => frcI n (fun m => F m q) (fun m => G m q)) := by
  cases n
  · exact hF _
  · exact hG _
theorem lin_onCp {β : Type} {c : Cp} {F : Nat → (β → Bool) → Bool} {G : Nat → Nat → (β → Bool) → Bool} (hF : ∀ m, Lin (F m)) (hG : ∀ m n, Lin (G m n)) : Lin (fun q => onCp c (fun m => F m q) (fun m n => G m n q)) := by
  cases c
  · exact hF _
  · exact hG _ _
theorem lin_onOpt {α β : Type} {o : Option α} {F : α → (β → Bool) → Bool} {G : (β → Bool) → Bool} (hG : Lin G) (hF : ∀ x, Lin (F x)) : Lin (fun q => onOpt o (G q) (fun x => F x q)) := by
  cases o
  · exact hG
  · exact hF _
theorem lin_onList {α β : Type} {o : List α} {F : α → List α → (β → Bool) → Bool} {G : (β → Bool) → Bool} (hG : Lin G) (hF : ∀ x l, Lin (F x l)) : Lin (fun q => onList o (G q) (fun x l => F x l q)) := by
  cases o
  · exact hG
  · exact hF _ _
theorem lin_onPair {α γ β : Type} {p : α × γ} {F : α → γ → (β → Bool) → Bool} (hF : ∀ x y, Lin (F x y)) : Lin (fun q => onPair p (fun x y => F x y q)) := by
  cases p
  exact hF _ _
theorem lin_onBool {β : Type} {v : V} {F0 : Bool → (β → Bool) → Bool} (h0 : ∀ x0, Lin (F0 x0)) : Lin (fun q => V.onBool v (fun x0 => F0 x0 q)) := by
  cases v <;> first | exact lin_no | exact h0 _
theorem lin_onNum {β : Type} {v : V} {F0 : Nat → (β → Bool) → Bool} (h0 : ∀ x0, Lin (F0 x0)) : Lin (fun q => V.onNum v (fun x0 => F0 x0 q)) := by
  cases v <;> first | exact lin_no | exact h0 _
theorem lin_onInt {β : Type} {v : V} {F0 : IntKind → Int → (β → Bool) → Bool} (h0 : ∀ x0 x1, Lin (F0 x0 x1)) : Lin (fun q => V.onInt v (fun x0 x1 => F0 x0 x1 q)) := by
  cases v <;> first | exact lin_no | exact h0 _ _
theorem lin_numOr {β : Type} {v : V} {F0 : Nat → (β → Bool) → Bool} {F1 : (β → Bool) → Bool} (h0 : ∀ x0, Lin (F0 x0)) (h1 : Lin F1) : Lin (fun q => V.numOr v (fun x0 => F0 x0 q) (F1 q)) := by
  cases v <;> first | exact lin_no | exact h0 _ | exact h1
theorem lin_onStr {β : Type} {v : V} {F0 : List Nat → (β → Bool) → Bool} (h0 : ∀ x0, Lin (F0 x0)) : Lin (fun q => V.onStr v (fun x0 => F0 x0 q)) := by
  cases v <;> first | exact lin_no | exact h0 _
theorem lin_onPtr {β : Type} {v : V} {F0 : Nat → Nat → (β → Bool) → Bool} (h0 : ∀ x0 x1, Lin (F0 x0 x1)) : Lin (fun q => V.onPtr v (fun x0 x1 => F0 x0 x1 q)) := by
  cases v <;> first | exact lin_no | exact h0 _ _
theorem lin_onPG {β : Type} {v : V} {F0 : Nat → Nat → (β → Bool) → Bool} {F1 : Nat → Nat → (β → Bool) → Bool} (h0 : ∀ x0 x1, Lin (F0 x0 x1)) (h1 : ∀ x0 x1, Lin (F1 x0 x1)) : Lin (fun q => V.onPG v (fun x0 x1 => F0 x0 x1 q) (fun x0 x1 => F1 x0 x1 q)) := by
  cases v <;> first | exact lin_no | exact h0 _ _ | exact h1 _ _
theorem lin_onSl {β : Type} {v : V} {F0 : Nat → Nat → Nat → Cp → (β → Bool) → Bool} (h0 : ∀ x0 x1 x2 x3, Lin (F0 x0 x1 x2 x3)) : Lin (fun q => V.onSl v (fun x0 x1 x2 x3 => F0 x0 x1 x2 x3 q)) := by
  cases v <;> first | exact lin_no | exact h0 _ _ _ _
theorem lin_onAgg {β : Type} {v : V} {F0 : List V → (β → Bool) → Bool} (h0 : ∀ x0, Lin (F0 x0)) : Lin (fun q => V.onAgg v (fun x0 => F0 x0 q)) := by
  cases v <;> first | exact lin_no | exact h0 _
theorem lin_onTup {β : Type} {v : V} {F0 : List V → (β → Bool) → Bool} (h0 : ∀ x0, Lin (F0 x0)) : Lin (fun q => V.onTup v (fun x0 => F0 x0 q)) := by
  cases v <;> first | exact lin_no | exact h0 _
theorem lin_nonNil {β : Type} {v : V} {F0 : V → (β → Bool) → Bool} (h0 : ∀ x0, Lin (F0 x0)) : Lin (fun q => V.nonNil v (fun x0 => F0 x0 q)) := by
  cases v <;> first | exact lin_no | exact h0 _
theorem lin_live {β : Type} {v : V} {F0 : V → (β → Bool) → Bool} (h0 : ∀ x0, Lin (F0 x0)) : Lin (fun q => V.live v (fun x0 => F0 x0 q)) := by
  cases v <;> first | exact lin_no | exact h0 _
theorem lin_liveOr {β : Type} {v : V} {F0 : V → (β → Bool) → Bool} {F1 : (β → Bool) → Bool} (h0 : ∀ x0, Lin (F0 x0)) (h1 : Lin F1) : Lin (fun q => V.liveOr v (fun x0 => F0 x0 q) (F1 q)) := by
  cases v <;> first | exact lin_no | exact h0 _ | exact h1
theorem lin_one {β : Type} {v : V} {F0 : V → (β → Bool) → Bool} (h0 : ∀ x0, Lin (F0 x0)) : Lin (fun q => V.one v (fun x0 => F0 x0 q)) := by
  cases v <;> first | exact lin_no | exact h0 _
theorem lin_onIface {β : Type} {v : V} {F0 : Nat → V → (β → Bool) → Bool} {F1 : (β → Bool) → Bool} (h0 : ∀ x0 x1, Lin (F0 x0 x1)) (h1 : Lin F1) : Lin (fun q => V.onIface v (fun x0 x1 => F0 x0 x1 q) (F1 q)) := by
  cases v <;> first | exact lin_no | exact h0 _ _ | exact h1
theorem lin_nilOr {β : Type} {v : V} {F0 : Bool → (β → Bool) → Bool} (h0 : ∀ x0, Lin (F0 x0)) : Lin (fun q => V.nilOr v (fun x0 => F0 x0 q)) := by
  cases v <;> first | exact lin_no | exact h0 _
theorem lin_nilPtr {β : Type} {v : V} {F0 : Bool → (β → Bool) → Bool} (h0 : ∀ x0, Lin (F0 x0)) : Lin (fun q => V.nilPtr v (fun x0 => F0 x0 q)) := by
  cases v <;> first | exact lin_no | exact h0 _
theorem lin_nilSl {β : Type} {v : V} {F0 : Bool → (β → Bool) → Bool} (h0 : ∀ x0, Lin (F0 x0)) : Lin (fun q => V.nilSl v (fun x0 => F0 x0 q)) := by
  cases v <;> first | exact lin_no | exact h0 _
theorem lin_nilMap {β : Type} {v : V} {F0 : Bool → (β → Bool) → Bool} (h0 : ∀ x0, Lin (F0 x0)) : Lin (fun q => V.nilMap v (fun x0 => F0 x0 q)) := by
  cases v <;> first | exact lin_no | exact h0 _
theorem lin_nilFn {β : Type} {v : V} {F0 : Bool → (β → Bool) → Bool} (h0 : ∀ x0, Lin (F0 x0)) : Lin (fun q => V.nilFn v (fun x0 => F0 x0 q)) := by
  cases v <;> first | exact lin_no | exact h0 _
theorem lin_nilIf {β : Type} {v : V} {F0 : Bool → (β → Bool) → Bool} (h0 : ∀ x0, Lin (F0 x0)) : Lin (fun q => V.nilIf v (fun x0 => F0 x0 q)) := by
  cases v <;> first | exact lin_no | exact h0 _
theorem lin_onMap {β : Type} {v : V} {F0 : Nat → (β → Bool) → Bool} {F1 : (β → Bool) → Bool} (h0 : ∀ x0, Lin (F0 x0)) (h1 : Lin F1) : Lin (fun q => V.onMap v (fun x0 => F0 x0 q) (F1 q)) := by
  cases v <;> first | exact lin_no | exact h0 _ | exact h1
theorem lin_sliceOr {β : Type} {v : V} {F0 : Nat → Nat → Nat → Cp → (β → Bool) → Bool} {F1 : (β → Bool) → Bool} {F2 : (β → Bool) → Bool} (h0 : ∀ x0 x1 x2 x3, Lin (F0 x0 x1 x2 x3)) (h1 : Lin F1) (h2 : Lin F2) : Lin (fun q => V.sliceOr v (fun x0 x1 x2 x3 => F0 x0 x1 x2 x3 q) (F1 q) (F2 q)) := by
  cases v <;> first | exact lin_no | exact h0 _ _ _ _ | exact h1 | exact h2
theorem lin_lenOr {β : Type} {v : V} {F0 : Nat → (β → Bool) → Bool} {F1 : List Nat → (β → Bool) → Bool} (h0 : ∀ x0, Lin (F0 x0)) (h1 : ∀ x0, Lin (F1 x0)) : Lin (fun q => V.lenOr v (fun x0 => F0 x0 q) (fun x0 => F1 x0 q)) := by
  cases v <;> first | exact lin_no | exact h0 _ | exact h1 _
theorem lin_ifStr {β : Type} {v : V} {F0 : List Nat → (β → Bool) → Bool} {F1 : (β → Bool) → Bool} (h0 : ∀ x0, Lin (F0 x0)) (h1 : Lin F1) : Lin (fun q => V.ifStr v (fun x0 => F0 x0 q) (F1 q)) := by
  cases v <;> first | exact lin_no | exact h0 _ | exact h1
theorem lin_ifPtr {β : Type} {v : V} {F0 : Nat → Nat → (β → Bool) → Bool} {F1 : (β → Bool) → Bool} (h0 : ∀ x0 x1, Lin (F0 x0 x1)) (h1 : Lin F1) : Lin (fun q => V.ifPtr v (fun x0 x1 => F0 x0 x1 q) (F1 q)) := by
  cases v <;> first | exact lin_no | exact h0 _ _ | exact h1
theorem lin_cells {β : Type} {v : V} {F0 : List V → (β → Bool) → Bool} (h0 : ∀ x0, Lin (F0 x0)) : Lin (fun q => V.cells v (fun x0 => F0 x0 q)) := by
  cases v <;> first | exact lin_no | exact h0 _
theorem lin_row {β : Type} {o : O} {F0 : Nat → Nat → Nat → Bool → List V → Cells → (β → Bool) → Bool} (h0 : ∀ x0 x1 x2 x3 x4 x5, Lin (F0 x0 x1 x2 x3 x4 x5)) : Lin (fun q => O.onRow o (fun x0 x1 x2 x3 x4 x5 => F0 x0 x1 x2 x3 x4 x5 q)) := by
  cases o <;> first | exact lin_no | exact h0 _ _ _ _ _ _
theorem lin_omap {β : Type} {o : O} {F0 : List (V × V × Nat) → Nat → (β → Bool) → Bool} (h0 : ∀ x0 x1, Lin (F0 x0 x1)) : Lin (fun q => O.onMap o (fun x0 x1 => F0 x0 x1 q)) := by
  cases o <;> first | exact lin_no | exact h0 _ _

theorem lin_mkI {k : IntKind} {n : Int} : Lin (mkI k n) := by
  unfold mkI
  exact lin_frcI (fun m => lin_ifb (lin_ifb (lin_ret _) (lin_ret _)) (lin_ret _)) (fun m => lin_ret _)
theorem lin_mkB {b : Bool} : Lin (mkB b) := by
  unfold mkB
  exact lin_ifb (lin_ret _) (lin_ret _)
theorem lin_onNat {β : Type} {v : V} {F : Nat → (β → Bool) → Bool} (hF : ∀ n, Lin (F n)) : Lin (fun q => V.onNat v (fun n => F n q)) := by
  unfold V.onNat
  exact lin_numOr hF (lin_onInt fun k n => lin_frcI hF fun _ => lin_no)
theorem lin_frcApp {α β : Type} {a b : List α} {F : List α → (β → Bool) → Bool} (hF : ∀ l, Lin (F l)) : Lin (fun q => frcApp a b (fun l => F l q)) := by
  have : (fun q => frcApp a b (fun l => F l q)) = F (a ++ b) := by funext q; rw [frcApp_eq]
  rw [this]; exact hF _
theorem lin_takeL {α β : Type} {F : List α → (β → Bool) → Bool} (hF : ∀ l, Lin (F l)) : ∀ (n : Nat) (l : List α), Lin (fun q => takeL n l (fun l => F l q))
  | 0, l => hF []
  | n + 1, [] => lin_no
  | n + 1, x :: l => lin_takeL (F := fun t q => F (x :: t) q) (fun t => hF (x :: t)) n l
theorem lin_dropL {α β : Type} {F : List α → (β → Bool) → Bool} (hF : ∀ l, Lin (F l)) : ∀ (n : Nat) (l : List α), Lin (fun q => dropL n l (fun l => F l q))
  | 0, l => hF l
  | n + 1, [] => lin_no
  | n + 1, x :: l => lin_dropL hF n l
theorem lin_nthL {α β : Type} {F : α → (β → Bool) → Bool} (hF : ∀ x, Lin (F x)) : ∀ (l : List α) (n : Nat), Lin (fun q => nthL l n (fun x => F x q))
  | [], n => lin_no
  | x :: l, n => lin_ifb (hF x) (lin_nthL hF l (Nat.sub n 1))
theorem lin_cellAt {β : Type} {c : Cells} {z : List V} {i : Nat} {F : V → (β → Bool) → Bool} (hF : ∀ v, Lin (F v)) : Lin (fun q => cellAt c z i (fun v => F v q)) :=
  lin_liveOr hF (lin_nthL hF _ _)
theorem lin_cellsAt {β : Type} {c : Cells} {z : List V} {F : List V → (β → Bool) → Bool} (hF : ∀ v, Lin (F v)) : ∀ (n i : Nat), Lin (fun q => cellsAt c z n i (fun v => F v q))
  | 0, i => hF []
  | n + 1, i => lin_cellAt (F := fun v q => frc (Nat.add i 1) (fun i => cellsAt c z n i (fun l => F (v :: l) q))) fun v => lin_frc fun i => lin_cellsAt (F := fun l q => F (v :: l) q) (fun l => hF (v :: l)) n i
theorem lin_rowGets {β : Type} {i o n : Nat} {h : Heap} {F : List V → (β → Bool) → Bool} (hF : ∀ v, Lin (F v)) : Lin (fun q => rowGets i o n h (fun v => F v q)) :=
  lin_row fun ety m fz w z c => lin_ifb (lin_cellsAt hF _ _) lin_no
theorem lin_rowGet {β : Type} {i o : Nat} {h : Heap} {F : V → (β → Bool) → Bool} (hF : ∀ v, Lin (F v)) : Lin (fun q => rowGet i o h (fun v => F v q)) :=
  lin_row fun ety m fz w z c => lin_ifb (lin_cellAt hF) lin_no
theorem lin_partK {agg : Bool} {sz off : Nat} {cs : List V} {β : Type} {F : V → (β → Bool) → Bool} (hF : ∀ v, Lin (F v)) : Lin (fun q => partK agg sz cs off (fun v => F v q)) :=
  lin_ifb (lin_dropL (F := fun l q => takeL sz l (fun p => F (.agg p) q)) (fun l => lin_takeL (F := fun p q => F (.agg p) q) (fun p => hF _) _ _) _ _) (lin_nthL hF _ _)
theorem lin_args {β : Type} {e : Env} : ∀ {l : List Operand} {F : List V → (β → Bool) → Bool}, (∀ v, Lin (F v)) → Lin (fun q => (argsK l).run e (fun v => F v q))
  | [], F, hF => hF []
  | x :: l, F, hF => lin_live (F0 := fun v q => (argsK l).run e (fun vs => F (v :: vs) q)) fun v => lin_args (F := fun vs q => F (v :: vs) q) (fun vs => hF (v :: vs))
theorem lin_src {β : Type} {e : Env} : ∀ {l : List Pce} {F : List V → (β → Bool) → Bool}, (∀ v, Lin (F v)) → Lin (fun q => (srcK l).run e (fun v => F v q))
  | [], F, hF => hF []
  | .zero v :: l, F, hF => lin_src (l := l) (F := fun t q => F (v :: t) q) (fun t => hF (v :: t))
  | .one x :: l, F, hF => lin_one (F0 := fun v q => (srcK l).run e (fun t => F (v :: t) q)) fun v => lin_src (F := fun t q => F (v :: t) q) (fun t => hF (v :: t))
  | .agg n x :: l, F, hF => lin_onAgg (F0 := fun cs q => ifb (Nat.beq (lenL cs) n) ((srcK l).run e (fun t => frcApp cs t (fun v => F v q))) false) fun cs => lin_ifb (lin_src (F := fun t q => frcApp cs t (fun v => F v q)) (fun t => lin_frcApp hF)) lin_no
theorem lin_over {β : Type} {e : Env} : ∀ {ps : List (Nat × Nat × Bool × Operand)} {l : List V} {F : List V → (β → Bool) → Bool}, (∀ v, Lin (F v)) → Lin (fun q => (overK ps).run e l (fun v => F v q))
  | [], l, F, hF => hF l
  | (p, sz, agg, x) :: r, l, F, hF => by
    show Lin (fun q => partCells agg sz x e (fun cs => takeL p l (fun a => dropL (Nat.add p sz) l (fun b => frcApp cs b (fun m => frcApp a m (fun l => (overK r).run e l (fun v => F v q)))))))
    have h1 : ∀ cs, Lin (fun q => takeL p l (fun a => dropL (Nat.add p sz) l (fun b => frcApp cs b (fun m => frcApp a m (fun l => (overK r).run e l (fun v => F v q)))))) := fun cs =>
      lin_takeL (F := fun a q => dropL (Nat.add p sz) l (fun b => frcApp cs b (fun m => frcApp a m (fun l => (overK r).run e l (fun v => F v q))))) (fun a =>
        lin_dropL (F := fun b q => frcApp cs b (fun m => frcApp a m (fun l => (overK r).run e l (fun v => F v q)))) (fun b =>
          lin_frcApp (F := fun m q => frcApp a m (fun l => (overK r).run e l (fun v => F v q))) fun m => lin_frcApp (F := fun l q => (overK r).run e l (fun v => F v q)) fun l => lin_over hF) _ _) _ _
    unfold partCells
    exact lin_ifb (lin_onAgg fun cs => lin_ifb (h1 cs) lin_no) (lin_one fun v => h1 [v])
end Go.Ev
end

section
/- Operations of values alone, and those that look at the heap alone. -/
namespace Go.Ev
open Go
set_option linter.unusedVariables false
set_option linter.unusedSimpArgs false
section
variable {C : Ctx}

/-- A step of values alone; a step that looks at the heap. -/
def PureL (x : OpK) : Prop := ∀ e, ∃ g : (V → Bool) → Bool, Lin g ∧ ∀ rt h k, x.run rt e h k = g (fun v => k v h)
def ReadL (x : OpK) : Prop := ∀ e h, ∃ g : (V → Bool) → Bool, Lin g ∧ ∀ rt k, x.run rt e h k = g (fun v => k v h)
theorem PureL.read {x : OpK} (h : PureL x) : ReadL x := fun e hp => let ⟨g, h1, h2⟩ := h e; ⟨g, h1, fun rt k => h2 rt hp k⟩
theorem pureL_pure {f : Env → (V → Bool) → Bool} (h : ∀ e, Lin (f e)) : PureL (pureK f) := fun e => ⟨f e, h e, fun _ _ _ => rfl⟩
theorem pureL_bad : PureL badK := fun e => ⟨fun _ => false, lin_no, fun _ _ _ => rfl⟩

theorem lin_eqI {β : Type} {a b : V} {F : Bool → (β → Bool) → Bool} (hF : ∀ c, Lin (F c)) : Lin (fun q => eqI a b (fun c => F c q)) := by
  unfold eqI
  exact lin_numOr (F0 := fun m q => _) (fun m => lin_numOr (fun n => hF _) (lin_onInt fun k n => lin_ifb (hF _) lin_no)) (lin_onInt (F0 := fun k m q => _) fun k m => lin_onInt fun l n => lin_ifb (hF _) lin_no)
theorem lin_eqT {β : Type} {a b : V} {F : Bool → (β → Bool) → Bool} (hF : ∀ c, Lin (F c)) : Lin (fun q => eqT a b (fun c => F c q)) := by
  unfold eqT
  exact lin_onStr fun s => lin_onStr fun u => hF _
theorem lin_eqB {β : Type} {a b : V} {F : Bool → (β → Bool) → Bool} (hF : ∀ c, Lin (F c)) : Lin (fun q => eqB a b (fun c => F c q)) := by
  unfold eqB
  exact lin_onBool fun s => lin_onBool fun u => hF _

def EqL (x : EqV) : Prop := ∀ a b, Lin (x.run a b)
def EqFL (x : EqF) : Prop := ∀ a b, Lin (x.run a b)
theorem lin_field {x : EqV} {r : EqF} {agg : Bool} {sz off : Nat} (hx : EqL x) (hr : EqFL r) : EqFL (eqField x agg sz off r) := fun a b =>
  lin_partK fun u => lin_partK fun v => lin_bind (hx u v) fun c => lin_ifb (hr a b) (lin_ret _)
theorem lin_eqV : ∀ (d t : Nat), EqL (eqV C d t)
  | 0, t => fun a b => lin_no
  | d + 1, t => by
    unfold eqV
    split
    · exact fun a b => lin_no
    · split
      · exact fun a b => lin_eqI fun c => lin_ret c
      · exact fun a b => lin_eqT fun c => lin_ret c
      · exact fun a b => lin_eqB fun c => lin_ret c
      · rename_i fs _
        split
        · exact fun a b => lin_no
        · refine fun a b => lin_onAgg fun xs => lin_onAgg fun ys => ?_
          have key : ∀ l : List Field, EqFL (foldL (⟨fun _ _ q => q true⟩ : EqF) (fun f _ r => match decide (f.name = "_"), C.ty f.type with
              | false, some fi => eqField (eqV C d f.type) (aggD fi.desc) fi.sz f.offset r
              | _, _ => fldBad) l) := by
            intro l
            induction l with
            | nil => exact fun a b => lin_ret true
            | cons f l ih =>
              rw [foldL_cons]
              split
              · exact lin_field (lin_eqV d _) ih
              · exact fun a b => lin_no
          exact key _ xs ys
      · split
        · exact fun a b => lin_no
        · rename_i n el _ _ ei _
          refine fun a b => lin_onAgg fun xs => lin_onAgg fun ys => ?_
          have key : ∀ l : List Nat, EqFL (foldL (⟨fun _ _ q => q true⟩ : EqF) (fun i _ r => eqField (eqV C d el) (aggD ei.desc) ei.sz (Nat.mul i ei.sz) r) l) := by
            intro l
            induction l with
            | nil => exact fun a b => lin_ret true
            | cons f l ih =>
              rw [foldL_cons]
              exact lin_field (lin_eqV d _) ih
          exact key _ xs ys
      · exact fun a b => lin_no

theorem lin_nilK {d : TypeDesc} {v : V} : Lin ((nilK d).run v) := by
  unfold nilK
  split
  · exact lin_nilPtr fun b => lin_ret b
  · exact lin_nilSl fun b => lin_ret b
  · exact lin_nilMap fun b => lin_ret b
  · exact lin_nilFn fun b => lin_ret b
  · exact lin_nilIf fun b => lin_ret b
  · exact lin_no
theorem lin_eqK {t : Nat} {x y : Operand} : ∀ e, ∃ g : (Bool → Bool) → Bool, Lin g ∧ ∀ h q, (eqK C t x y).run e h q = g q := by
  intro e
  unfold eqK
  split
  · exact ⟨_, lin_no, fun _ _ => rfl⟩
  · split
    · exact ⟨_, lin_nilK, fun _ _ => rfl⟩
    · exact ⟨_, lin_nilK, fun _ _ => rfl⟩
    · split
      · exact ⟨_, lin_eqV 1 _ _ _, fun _ _ => rfl⟩
      · exact ⟨_, lin_eqV 1 _ _ _, fun _ _ => rfl⟩
      · exact ⟨_, lin_eqV 1 _ _ _, fun _ _ => rfl⟩
      · split
        · exact ⟨_, lin_no, fun _ _ => rfl⟩
        · exact ⟨_, lin_onAgg fun _ => lin_onAgg fun _ => lin_eqV 20 t _ _, fun _ _ => rfl⟩
      · split
        · exact ⟨_, lin_no, fun _ _ => rfl⟩
        · exact ⟨_, lin_onAgg fun _ => lin_onAgg fun _ => lin_eqV 20 t _ _, fun _ _ => rfl⟩
      · split
        · split
          · exact ⟨_, lin_no, fun _ _ => rfl⟩
          · refine ⟨_, ?_, fun _ _ => rfl⟩
            exact lin_ifPtr (fun i o => lin_ifPtr (fun j p => lin_ifb (lin_ret _) lin_no) (lin_nilPtr fun b => lin_ifb (lin_ret _) lin_no)) (lin_nilPtr fun b => lin_ifb (lin_nilPtr fun b => lin_ret b) lin_no)
        · exact ⟨_, lin_no, fun _ _ => rfl⟩
      · exact ⟨_, lin_no, fun _ _ => rfl⟩

theorem lin_intBin {op : BinOp} {k : IntKind} {a b : Int} : Lin (intBin op k a b) := by
  cases op <;> first | exact lin_mkI | exact lin_mkB | exact lin_ifb lin_no lin_mkI | exact lin_no
theorem lin_shiftI {op : BinOp} {k : IntKind} {a b : Int} : Lin (shiftI op k a b) := by
  unfold shiftI
  split
  · exact lin_no
  · split
    · exact lin_mkI
    · exact lin_mkI
    · exact lin_no
theorem lin_numBin {op : BinOp} {m n : Nat} {F : (V → Bool) → Bool} (hF : Lin F) : Lin (fun q => numBin op (fun _ => F q) m n q) := by
  cases op
  case add => exact lin_frc fun s => lin_ifb (lin_ret _) hF
  case mul => exact lin_frc fun s => lin_ifb (lin_ret _) hF
  case sub => exact lin_ifb (lin_frc fun s => lin_ret _) (lin_frc fun s => lin_ret _)
  case quo => exact lin_ifb lin_no (lin_frc fun s => lin_ret _)
  case rem => exact lin_ifb lin_no (lin_frc fun s => lin_ret _)
  all_goals first | exact lin_frc fun s => lin_ret _ | exact lin_mkB | exact hF
theorem lin_nb (op : BinOp) : (∀ {m n : Nat} {F : (V → Bool) → Bool}, Lin F → Lin (fun q => (nb op).num (fun _ => F q) m n q)) ∧ ∀ {k : IntKind} {a b : Int}, Lin ((nb op).int k a b) := by
  cases op <;> simp only [nb]
  case shl => exact ⟨fun hF => lin_frc fun x => lin_ifb (lin_ifb (lin_ret _) hF) hF, lin_shiftI⟩
  case shr => exact ⟨fun hF => lin_frc fun x => lin_ret _, lin_shiftI⟩
  all_goals exact ⟨fun hF => lin_numBin hF, lin_intBin⟩
theorem lin_strBin {op : BinOp} {a b : List Nat} : Lin (strBin op a b) := by
  cases op
  case add => exact lin_frcApp fun s => lin_ifb (lin_ret _) lin_no
  all_goals first | exact lin_mkB | exact lin_no
theorem pureL_arith {op : BinOp} {x y : Operand} : PureL (arithK op x y) := by
  unfold arithK
  dsimp only
  obtain ⟨h1, h2⟩ := lin_nb op
  split
  · exact pureL_pure fun e => lin_numOr (F0 := fun m q => _) (fun m => lin_onInt (F0 := fun _ n q => _) fun _ n => lin_frcI (F := fun n q => _) (fun n => h1 h2) fun _ => lin_no) (lin_onInt (F0 := fun k m q => _) fun k m => lin_onInt fun _ n => h2)
  · exact pureL_pure fun e => lin_numOr (F0 := fun m q => _) (fun m => lin_numOr (F0 := fun n q => _) (fun n => h1 h2) (lin_onInt fun k n => lin_ifb h2 lin_no)) (lin_onInt (F0 := fun k m q => _) fun k m => lin_onInt fun l n => lin_ifb h2 lin_no)
theorem pureL_bin {op : BinOp} {t : Nat} {x y : Operand} : PureL (binK C op t x y) := by
  unfold binK
  split
  · exact pureL_bad
  · split
    · exact pureL_pure fun e => lin_eqI fun b => lin_mkB
    · exact pureL_pure fun e => lin_eqI fun b => lin_mkB
    · intro e
      obtain ⟨g, h1, h2⟩ := lin_eqK (C := C) (t := t) (x := x) (y := y) e
      exact ⟨fun q => g (fun b => mkB b q), lin_bind h1 fun b => lin_mkB, fun rt h k => h2 _ _⟩
    · intro e
      obtain ⟨g, h1, h2⟩ := lin_eqK (C := C) (t := t) (x := x) (y := y) e
      exact ⟨fun q => g (fun b => mkB (notB b) q), lin_bind h1 fun b => lin_mkB, fun rt h k => h2 _ _⟩
    · exact pureL_pure fun e => lin_onStr fun a => lin_onStr fun b => lin_strBin
    · exact pureL_arith
    · exact pureL_bad

theorem lin_bnd {β : Type} {d : Nat} {o : Option Operand} {e : Env} {F : Nat → (β → Bool) → Bool} (hF : ∀ n, Lin (F n)) : Lin (fun q => (bndK d o).run e (fun n => F n q)) := by
  cases o with
  | none => exact hF d
  | some x => exact lin_onNat hF
theorem lin_hi {β : Type} {d : Nat} {o : Option Operand} {e : Env} {F : Nat → (β → Bool) → Bool} (hF : ∀ n, Lin (F n)) : Lin (fun q => (hiK o).run d e (fun n => F n q)) := by
  cases o with
  | none => exact hF d
  | some x => exact lin_onNat hF
theorem lin_cutKnown {sz b o l hh k : Nat} : Lin (cutKnown sz b o l hh k) := by
  unfold cutKnown
  exact lin_ifb (lin_ifb (lin_frc fun o => lin_frc fun n => lin_frc fun c => lin_ret _) lin_no) lin_no
theorem lin_cutLess {sz b o l hh n d z : Nat} : Lin (cutLess sz b o l hh n d z) := by
  unfold cutLess
  exact lin_ifb (lin_ifb (lin_ifb (lin_ifb (lin_frc fun o => lin_frc fun n => lin_frc fun c => lin_ret _) (lin_ret _)) lin_no) lin_no) lin_no
theorem pureL_slice {t : Nat} {x : Operand} {lo hi mx : Option Operand} : PureL (sliceK C t x lo hi mx) := by
  unfold sliceK
  split
  · exact pureL_bad
  · split
    · split
      · split
        · dsimp only
          exact pureL_pure fun e => lin_bnd fun l => lin_onNat fun hh => lin_onNat fun mm => lin_sliceOr (fun b o n c => lin_ifb (lin_onCp (fun k => lin_ifb lin_cutKnown lin_no) (fun _ _ => lin_ifb lin_cutKnown lin_no)) lin_no)
            (lin_ifb (lin_ifb (lin_ifb (lin_ret _) lin_no) lin_no) lin_no) lin_no
        · exact pureL_bad
      · exact pureL_bad
    · dsimp only
      split
      · exact pureL_pure fun e => lin_onStr fun s => lin_bnd fun l => lin_hi fun hh => lin_takeL (F := fun p q => dropL l p (fun r => q (V.str r))) (fun p => lin_dropL (F := fun r q => q (V.str r)) (fun r => lin_ret _) _ _) _ _
      · split
        · exact pureL_pure fun e => lin_bnd fun l => lin_sliceOr (fun b o n c => lin_hi fun hh => lin_onCp (fun k => lin_cutKnown) (fun d z => lin_cutLess)) (lin_hi fun hh => lin_ifb (lin_ifb (lin_ret _) lin_no) lin_no) (lin_hi fun hh => lin_ifb (lin_ifb (lin_ret _) lin_no) lin_no)
        · exact pureL_bad
      · split
        · exact pureL_pure fun e => lin_onPtr fun b o => lin_bnd fun l => lin_hi fun hh => lin_cutKnown
        · exact pureL_bad
      · split
        · split
          · split
            · exact pureL_pure fun e => lin_onPtr fun b o => lin_bnd fun l => lin_hi fun hh => lin_cutKnown
            · exact pureL_bad
          · exact pureL_bad
        · exact pureL_bad
      · exact pureL_bad

theorem pureL_build {t : Nat} {ps : List (Nat × Operand)} : PureL (buildK C t ps) := by
  unfold buildK
  split
  · split
    · split
      · exact pureL_pure fun e => lin_src fun l => lin_ret _
      · exact pureL_pure fun e => lin_over fun l => lin_ret _
      · exact pureL_bad
    · exact pureL_bad
  · exact pureL_bad
theorem pureL_fieldAddr {s f : Nat} {x : Operand} : PureL (fieldAddrK C s x f) := by
  unfold fieldAddrK
  split
  · split
    · exact pureL_bad
    · exact pureL_pure fun e => lin_onPtr fun i o => lin_ret _
  · split
    · exact pureL_bad
    · exact pureL_pure fun e => lin_onPtr fun i o => lin_frc fun o => lin_ret _
  · exact pureL_bad
theorem pureL_field {s f : Nat} {x : Operand} : PureL (fieldK C s x f) := by
  unfold fieldK
  split
  · split
    · exact pureL_pure fun e => lin_onAgg fun cs => lin_partK fun v => lin_ret v
    · exact pureL_pure fun e => lin_onAgg fun cs => lin_partK fun v => lin_ret v
  · exact pureL_bad
theorem pureL_indexAddr {t : Nat} {x i : Operand} : PureL (indexAddrK C t x i) := by
  unfold indexAddrK
  split
  · exact pureL_bad
  · split
    · split
      · exact pureL_pure fun e => lin_onNat fun j => lin_ifb (lin_onPG (fun b o => lin_frc fun o => lin_ret _) (fun g o => lin_frc fun o => lin_ret _)) lin_no
      · exact pureL_bad
    · split
      · exact pureL_pure fun e => lin_onNat fun j => lin_onSl fun b o l _ => lin_ifb (lin_frc fun o => lin_ret _) lin_no
      · exact pureL_bad
    · exact pureL_bad
theorem pureL_index {t : Nat} {x i : Operand} : PureL (indexK C t x i) := by
  unfold indexK
  split
  · exact pureL_bad
  · split
    · split
      · exact pureL_pure fun e => lin_onNat fun j => lin_ifb (lin_onAgg fun cs => lin_partK fun v => lin_ret v) lin_no
      · exact pureL_bad
    · exact pureL_pure fun e => lin_onNat fun j => lin_onStr fun s => lin_nthL (F := fun b q => q (V.ik .u8 (.ofNat b))) (fun b => lin_ret _) _ _
    · exact pureL_bad
theorem pureL_un {op : UnOp} {x : Operand} : PureL (unK op x) := by
  unfold unK
  split
  · exact pureL_pure fun e => lin_onBool fun b => lin_mkB
  · exact pureL_pure fun e => lin_onInt fun k n => lin_intBin
  · exact pureL_pure fun e => lin_onInt fun k n => lin_intBin
  · exact pureL_bad
theorem pureL_assert {x : Operand} {t : Nat} {ok : Bool} : PureL (assertK C x t ok) := by
  unfold assertK
  split
  · split
    · exact pureL_bad
    · dsimp only
      split
      · exact pureL_pure fun e => lin_onIface (fun t v => lin_ifb (lin_ret _) (lin_ret _)) (lin_ret _)
      · exact pureL_pure fun e => lin_onIface (fun t v => lin_ifb (lin_live fun v => lin_ret v) lin_no) lin_no
  · exact pureL_bad
end
end Go.Ev
end

section
/- Kinds of operations; values alike; an environment cut to what is looked at. -/
namespace Go.Ev
open Go
set_option linter.unusedVariables false
set_option linter.unusedSimpArgs false
section
variable {P : Program} {C : Ctx} {ρ : Ren}

/-- 0: of values alone; 1: looks at the heap; 2: a new object; 3: anything else. -/
def opCls (C : Ctx) (o : Op) : Nat :=
  match o with
  | .move _ | .assign _ | .pick _ _ _ | .binOp _ _ _ _ _ | .fieldAddr _ _ _ | .nilCheck _ | .indexAddr _ _ _ | .extract _ _ | .field _ _ _ | .index _ _ _ | .unOp _ _ _ | .makeInterface _ _ | .makeFunc _ _ _ | .typeAssert _ _ _ _ | .slice _ _ _ _ _ | .build _ _ => 0
  | .load _ _ | .lookup _ _ _ _ => 1
  | .convert s d _ => (match C.ty s, C.ty d with
    | some si, some di => (match si.desc, di.desc with | .int _, .int _ => 0 | .string, .string => 0 | _, _ => 3)
    | _, _ => 3)
  | .call c => (match c.callee with
    | .builtin .len => (match c.argTypes.toList with
      | t :: _ => (match C.ty t with
        | some ti => (match ti.desc with | .map _ _ => 1 | _ => 0)
        | none => 3)
      | _ => 3)
    | .builtin .cap | .builtin .min | .builtin .max => 0
    | _ => 3)
  | .alloc _ | .makeSlice _ _ _ | .buildSlice _ _ _ => 2
  | _ => 3

theorem readL_load {t : Nat} {a : Operand} : ReadL (loadK C t a) := by
  unfold loadK
  split
  · exact pureL_bad.read
  · split
    · exact fun e h => ⟨_, lin_onPtr fun i o => lin_rowGets fun l => lin_ret _, fun rt k => rfl⟩
    · refine fun e h => ⟨fun q => V.onPG ((opnd a).get e) (fun i o => rowGet i o h q) (fun g o => onOpt (C.gl g) false (fun cs => nthL cs o q)), ?_, fun rt k => rfl⟩
      exact lin_onPG (fun i o => lin_rowGet fun v => lin_ret v) (fun g o => lin_onOpt lin_no fun cs => lin_nthL (F := fun v q => q v) (fun v => lin_ret v) _ _)
theorem lin_findE {β : Type} {x : EqV} {key : V} {miss : (β → Bool) → Bool} {hit : Nat → V → Nat → (β → Bool) → Bool} (hx : EqL x) (hm : Lin miss) (hh : ∀ i v b, Lin (hit i v b)) : ∀ (es : List (V × V × Nat)) (i : Nat),
    Lin (fun q => foldL (fun (_ : Nat) => miss q) (fun x' _ r i => onPair x' (fun y vb => x.run key y (fun c => ifb c (onPair vb (fun v b => hit i v b q)) (frc (Nat.add i 1) r)))) es i)
  | [], i => hm
  | y :: es, i => by
    obtain ⟨y, vb⟩ := y
    exact lin_bind (hx key y) fun c => lin_ifb (lin_onPair fun v b => hh i v b) (lin_findE hx hm hh es _)
theorem eqL_keyEq {t : Nat} : EqL (keyEq C t) := by
  unfold keyEq
  split
  · split
    · exact lin_eqV 1 _
    · exact fun a b => lin_no
  · exact fun a b => lin_no
theorem readL_lookup {t : Nat} {m key : Operand} {ok : Bool} : ReadL (lookupK C t m key ok) := by
  unfold lookupK
  split
  · dsimp only
    split
    · exact fun e h => ⟨_, lin_onMap (fun i => lin_omap fun es c => lin_live fun q => lin_findE (eqL_keyEq (C := C) (t := t)) (lin_ret _) (fun _ v _ => lin_ret (V.tup [v, .bool true])) es 0) (lin_ret _), fun rt k => rfl⟩
    · exact fun e h => ⟨_, lin_onMap (fun i => lin_omap fun es c => lin_live fun q => lin_findE (eqL_keyEq (C := C) (t := t)) (lin_live fun z => lin_ret z) (fun _ v _ => lin_ret v) es 0) (lin_live fun z => lin_ret z), fun rt k => rfl⟩
  · exact pureL_bad.read

theorem pureL_args {l : List Operand} {F : Env → List V → (V → Bool) → Bool} (hF : ∀ e v, Lin (F e v)) : PureL (pureK (fun e q => (argsK l).run e (fun v => F e v q))) := pureL_pure fun e => lin_args fun v => hF e v
theorem pureL_mm {max : Bool} {x y : Operand} : PureL (mmK max x y) := pureL_pure fun e => lin_onInt fun k a => lin_onInt fun l b => lin_ifb (lin_ifb lin_mkI lin_mkI) lin_no
theorem pureL_cap {t : Nat} {x : Operand} : PureL (capK C t x) := by
  unfold capK
  split
  · split
    · exact pureL_pure fun e => lin_sliceOr (fun i o n c => lin_onCp (fun n => lin_ifb (lin_ret _) lin_no) (fun _ _ => lin_no)) (lin_ret _) lin_no
    · exact pureL_bad
  · exact pureL_bad

/-- An operation of values alone. -/
theorem pureL_op {o : Op} (h : opCls C o = 0) : PureL (opK C o) := by
  unfold opK
  split
  case h_1 x => exact pureL_pure fun e => lin_live fun v => lin_ret v
  case h_2 x => exact pureL_pure fun e => lin_live fun v => lin_ret v
  case h_3 c a b => exact pureL_pure fun e => lin_onBool fun t => lin_ifb (lin_live fun v => lin_ret v) (lin_live fun v => lin_ret v)
  case h_4 => exact pureL_bin
  case h_5 => simp [opCls] at h
  case h_6 => simp [opCls] at h
  case h_7 => exact pureL_fieldAddr
  case h_8 => exact pureL_pure fun e => lin_nonNil fun v => lin_ret v
  case h_9 => exact pureL_indexAddr
  case h_10 c =>
    simp only [opCls] at h
    unfold callOpK
    dsimp only
    cases hc : c.callee with
    | value f => rw [hc] at h; simp at h
    | invoke r n => rw [hc] at h; simp at h
    | builtin b =>
      rw [hc] at h
      dsimp only at h ⊢
      cases b <;> first | (simp at h; done) | skip
      case len =>
        unfold builtinK
        split <;> first | exact pureL_bad | (rename_i hx _; cases hx; done) | skip
        rename_i x _ _
        split
        · rename_i t ts ht
          rw [ht] at h
          dsimp only at h
          unfold lenK
          split
          · exact pureL_bad
          · rename_i ti hti
            rw [hti] at h
            dsimp only at h
            split
            · exact pureL_pure fun e => lin_onStr fun s => lin_frc fun n => lin_ifb (lin_ret _) lin_no
            · exact pureL_pure fun e => lin_sliceOr (fun _ _ n _ => lin_ifb (lin_ret _) lin_no) (lin_ret _) (lin_ret _)
            · exact pureL_pure fun e => lin_ifb (lin_ret _) lin_no
            · split
              · split
                · exact pureL_pure fun e => lin_ifb (lin_ret _) lin_no
                · exact pureL_bad
              · exact pureL_bad
            · rename_i hm; rw [hm] at h; simp at h
            · exact pureL_bad
        · exact pureL_bad
      case cap =>
        unfold builtinK
        split <;> first | exact pureL_bad | (rename_i hx _; cases hx; done) | skip
        split <;> first | exact pureL_cap | exact pureL_bad
      case min =>
        unfold builtinK
        split <;> first | exact pureL_bad | exact pureL_mm | (rename_i hx _; cases hx; done)
      case max =>
        unfold builtinK
        split <;> first | exact pureL_bad | exact pureL_mm | (rename_i hx _; cases hx; done)
  case h_11 => exact pureL_build
  case h_12 => simp [opCls] at h
  case h_13 => simp [opCls] at h
  case h_14 => simp [opCls] at h
  case h_15 t ix => exact pureL_pure fun e => lin_onTup fun vs => lin_nthL (F := fun v q => V.live v q) (fun v => lin_live fun v => lin_ret v) _ _
  case h_16 => exact pureL_field
  case h_17 => exact pureL_index
  case h_18 => exact pureL_un
  case h_19 s d x =>
    simp only [opCls] at h
    unfold convK
    split
    · rename_i si di hs hd
      rw [hs, hd] at h
      dsimp only at h
      split
      · exact pureL_pure fun e => lin_onInt fun _ n => lin_frcI (fun m => lin_ifb lin_mkI lin_mkI) (fun m => lin_mkI)
      · exact pureL_pure fun e => lin_onStr fun s => lin_ret _
      all_goals first | exact pureL_bad | (rename_i h1 h2; rw [h1, h2] at h; simp at h)
    · exact pureL_bad
  case h_20 =>
    split
    · split
      · exact pureL_bad
      · exact pureL_pure fun e => lin_live fun v => lin_ret _
    · exact pureL_bad
  case h_21 fn first cap =>
    split
    · exact pureL_pure fun e => lin_args (F := fun a q => _) fun a => lin_args fun b => lin_ret _
    · exact pureL_bad
  case h_22 => simp [opCls] at h
  case h_23 => simp [opCls] at h
  case h_24 => simp [opCls] at h
  case h_25 => exact pureL_slice
  case h_26 => simp [opCls] at h
  case h_27 => simp [opCls] at h
  case h_28 => simp [opCls] at h
  case h_29 => simp [opCls] at h
  case h_30 => simp [opCls] at h
  case h_31 => simp [opCls] at h
  case h_32 => simp [opCls] at h
  case h_33 => exact pureL_assert
  case h_34 => exact pureL_bad

/-- An operation that changes nothing. -/
theorem readL_op {o : Op} (h : opCls C o ≤ 1) : ReadL (opK C o) := by
  by_cases h0 : opCls C o = 0
  · exact (pureL_op h0).read
  · have h1 : opCls C o = 1 := by omega
    clear h h0
    unfold opCls at h1
    split at h1 <;> first | (simp at h1; done) | skip
    · exact readL_load
    · exact readL_lookup
    · repeat' split at h1
      all_goals simp at h1
    · rename_i c
      split at h1 <;> first | (simp at h1; done) | skip
      rename_i hc
      split at h1 <;> first | (simp at h1; done) | skip
      rename_i t ts hts
      split at h1 <;> first | (simp at h1; done) | skip
      rename_i ti hti
      split at h1 <;> first | (simp at h1; done) | skip
      rename_i hdesc
      show ReadL (callOpK C c)
      unfold callOpK
      rw [hc]
      dsimp only
      unfold builtinK
      split <;> first | exact pureL_bad.read | (rename_i hx _; cases hx; done) | skip
      rw [hts]
      dsimp only
      unfold lenK
      rw [hti]
      dsimp only
      rw [hdesc]
      exact fun e h => ⟨_, lin_onMap (fun i => lin_omap fun es c => lin_frc fun n => lin_ifb (lin_ret _) lin_no) (lin_ret _), fun rt k => rfl⟩

theorem onIk_true {v : V} {q : IntKind → Int → Bool} : V.onIk v q = true ↔ ∃ k n, v = .ik k n ∧ q k n = true := by
  cases v <;> simp [V.onIk, and_assoc]
theorem kNum_inj {k l : IntKind} (h : kNum k = kNum l) : k = l := by
  cases k <;> cases l <;> first | rfl | (exact absurd h (by decide))
theorem eqLN_of : ∀ {a b : List Nat}, eqLN a b = true → a = b
  | [], [], _ => rfl
  | [], y :: b, h => by simp [eqLN, foldL] at h
  | x :: a, [], h => by simp [eqLN, foldL] at h
  | x :: a, y :: b, h => by
    have h : ifb (Nat.beq x y) (eqLN a b) false = true := h
    obtain ⟨h1, h2⟩ := ifb_and.1 h
    rw [Nat.eq_of_beq_eq_true h1, eqLN_of h2]
theorem sameL_cons {x : V} {l b : List V} : V.sameL (x :: l) b = onList b false (fun y t => ifb (V.same x y) (V.sameL l t) false) := rfl
theorem sameL_nil {b : List V} : V.sameL [] b = onList b true (fun _ _ => false) := rfl
 mutual
theorem same_eq : ∀ {a b : V}, V.same a b = true → a = b
  | .undef, b, h => absurd h (by show ¬ (false = true); simp)
  | .bool x, b, h => by
    obtain ⟨y, rfl, h⟩ := V.onBool_true.1 h
    cases x <;> cases y <;> first | rfl | (exact absurd h (by decide))
  | .num n, b, h => by
    obtain ⟨y, rfl, h⟩ := V.onNum_true.1 h
    rw [Nat.eq_of_beq_eq_true h]
  | .ik k n, b, h => by
    obtain ⟨l, m, rfl, h⟩ := onIk_true.1 h
    obtain ⟨h1, h2⟩ := ifb_and.1 h
    rw [kNum_inj (Nat.eq_of_beq_eq_true h1), beqI_iff.1 h2]
  | .str s, b, h => by
    obtain ⟨y, rfl, h⟩ := V.onStr_true.1 h
    rw [eqLN_of h]
  | .nilp, b, h => by cases b <;> first | rfl | (exact absurd h (by simp [V.same, V.nilPtr]))
  | .ptr i o, b, h => by
    obtain ⟨j, p, rfl, h⟩ := V.onPtr_true.1 h
    obtain ⟨h1, h2⟩ := ifb_and.1 h
    rw [Nat.eq_of_beq_eq_true h1, Nat.eq_of_beq_eq_true h2]
  | .glob g o, b, h => by
    rcases V.onPG_true.1 h with ⟨_, _, _, h⟩ | ⟨j, p, rfl, h⟩
    · exact absurd h (by simp)
    · obtain ⟨h1, h2⟩ := ifb_and.1 h
      rw [Nat.eq_of_beq_eq_true h1, Nat.eq_of_beq_eq_true h2]
  | .nils, b, h => by cases b <;> first | rfl | (exact absurd h (by simp [V.same, V.nilSl]))
  | .sl i o n c, b, h => by
    obtain ⟨j, p, m, d, rfl, h⟩ := V.onSl_true.1 h
    obtain ⟨h1, h⟩ := ifb_and.1 h
    obtain ⟨h2, h⟩ := ifb_and.1 h
    obtain ⟨h3, h⟩ := ifb_and.1 h
    rw [Nat.eq_of_beq_eq_true h1, Nat.eq_of_beq_eq_true h2, Nat.eq_of_beq_eq_true h3]
    congr 1
    cases c <;> cases d <;> simp only [onCp] at h
    · rw [Nat.eq_of_beq_eq_true h]
    · exact absurd h (by simp)
    · exact absurd h (by simp)
    · obtain ⟨h4, h5⟩ := ifb_and.1 h
      rw [Nat.eq_of_beq_eq_true h4, Nat.eq_of_beq_eq_true h5]
  | .esl, b, h => by
    rcases V.sliceOr_true.1 h with ⟨_, _, _, _, _, h⟩ | ⟨_, h⟩ | ⟨rfl, _⟩
    · exact absurd h (by simp)
    · exact absurd h (by simp)
    · rfl
  | .nilm, b, h => by cases b <;> first | rfl | (exact absurd h (by simp [V.same, V.nilMap]))
  | .map i, b, h => by
    rcases V.onMap_true.1 h with ⟨j, rfl, h⟩ | ⟨_, h⟩
    · rw [Nat.eq_of_beq_eq_true h]
    · exact absurd h (by simp)
  | .fn f a c, b, h => by
    rcases V.onFn_true.1 h with ⟨g, a', c', rfl, h⟩ | ⟨_, _, h⟩
    · obtain ⟨h1, h⟩ := ifb_and.1 h
      obtain ⟨h2, h3⟩ := ifb_and.1 h
      rw [Nat.eq_of_beq_eq_true h1, sameL_eq h2, sameL_eq h3]
    · exact absurd h (by simp)
  | .yield i, b, h => by
    rcases V.onFn_true.1 h with ⟨_, _, _, _, h⟩ | ⟨j, rfl, h⟩
    · exact absurd h (by simp)
    · rw [Nat.eq_of_beq_eq_true h]
  | .nilf, b, h => by cases b <;> first | rfl | (exact absurd h (by simp [V.same, V.nilFn]))
  | .iface t v, b, h => by
    rcases V.onIface_true.1 h with ⟨u, w, rfl, h⟩ | ⟨_, h⟩
    · obtain ⟨h1, h2⟩ := ifb_and.1 h
      rw [Nat.eq_of_beq_eq_true h1, same_eq h2]
    · exact absurd h (by simp)
  | .nili, b, h => by cases b <;> first | rfl | (exact absurd h (by simp [V.same, V.nilIf]))
  | .agg cs, b, h => by
    obtain ⟨ds, rfl, h⟩ := V.onAgg_true.1 h
    rw [sameL_eq h]
  | .tup cs, b, h => by
    obtain ⟨ds, rfl, h⟩ := V.onTup_true.1 h
    rw [sameL_eq h]
theorem sameL_eq : ∀ {a b : List V}, V.sameL a b = true → a = b
  | [], [], _ => rfl
  | [], y :: b, h => absurd h (by rw [sameL_nil]; simp [onList])
  | x :: a, [], h => absurd h (by rw [sameL_cons]; simp [onList])
  | x :: a, y :: b, h => by
    rw [sameL_cons] at h
    have h : ifb (V.same x y) (V.sameL a b) false = true := h
    obtain ⟨h1, h2⟩ := ifb_and.1 h
    rw [same_eq h1, sameL_eq h2]
end
end
end Go.Ev
end

section
/- A drawn region's operations, one by one: what is told ahead of its time, and made ahead of its time. -/
namespace Go.Ev
open Go
set_option linter.unusedVariables false
set_option linter.unusedSimpArgs false
section
variable {P : Program} {C : Ctx} {ρ : Ren}

def tab16 {α : Type} (f : Nat → α) : S16 α := ⟨f 0, f 1, f 2, f 3, f 4, f 5, f 6, f 7, f 8, f 9, f 10, f 11, f 12, f 13, f 14, f 15⟩
theorem tab16_get {α : Type} {f : Nat → α} {d : α} : ∀ n, n < 16 → (sel n).get α d (tab16 f) = f n := by
  refine lt16 ?_ ?_ ?_ ?_ ?_ ?_ ?_ ?_ ?_ ?_ ?_ ?_ ?_ ?_ ?_ ?_ <;> rfl
def mkEnv (m : Nat → V) : Env := tab16 fun b => tab16 fun a => m (16 * b + a)
theorem eg_ge {t : Nat} {e : Env} (h : 256 ≤ t) : (eg t).get e = .undef := by
  show (p2? t).get V .undef e = .undef
  rw [p2q_of_ge h]; rfl
theorem mkEnv_get {m : Nat → V} {t : Nat} (h : t < 256) : (eg t).get (mkEnv m) = m t := by
  show (p2? t).get V .undef (mkEnv m) = m t
  rw [p2q_of_lt h]
  show (sel (d0 t)).get V .undef ((sel (d1 t)).get (S16 V) (rep16 V .undef) (mkEnv m)) = m t
  unfold mkEnv
  rw [tab16_get _ (d1_lt t), tab16_get _ (d0_lt t)]
  congr 1
  show 16 * (t / 16 % 16) + t % 16 = t
  omega

/-- What is known of these alone. -/
noncomputable def cut (ts : List Nat) (e : Env) : Env := mkEnv fun t => if t ∈ ts then (eg t).get e else .undef
theorem cut_get {ts : List Nat} {e : Env} {t : Nat} : (eg t).get (cut ts e) = if t ∈ ts then (eg t).get e else .undef := by
  rcases Nat.lt_or_ge t 256 with h | h
  · exact mkEnv_get h
  · rw [eg_ge h, eg_ge h]; simp
theorem cut_rel {ts : List Nat} {e : Env} {tmps : Array Value} (h : ∀ t ∈ ts, RelV ρ ((eg t).get e) (tmps.getD t undef)) : EnvRel ρ (cut ts e) tmps := by
  intro t
  rw [cut_get]
  split
  · exact h t ‹_›
  · exact .undef _
theorem mem_looks {ops : Array Oper} {o : Oper} {t : Nat} (h : Operand.tmp t ∈ o.op.operands) : t ∈ o.looksAt ops :=
  List.mem_append_left _ (List.mem_filterMap.2 ⟨.tmp t, by simpa using h, rfl⟩)
theorem dep_cut {ops : Array Oper} {o : Oper} {e : Env} {rt : Rt} {h : Heap} {k : V → Heap → Bool} : (opK C o.op).run rt (cut (o.looksAt ops) e) h k = (opK C o.op).run rt e h k := by
  refine dep_op fun x hx => ?_
  cases x with
  | tmp t => show (eg t).get _ = (eg t).get e; rw [cut_get, if_pos (mem_looks hx)]
  | const v => rfl
  | global g => rfl
  | func f => rfl

/-- Is an operation wanted? -/
noncomputable def wantsE (all : List Oper) (o : Oper) (e : Env) : Option Bool :=
  match o.guard with
  | none => some true
  | some (j, want) => match guardDst all j with
    | none => some false
    | some g => match (eg g).get e with
      | .bool b => some (b == want)
      | .tup _ => some false
      | _ => none

theorem guard_looks {ops : Array Oper} {o : Oper} {j g : Nat} {want : Bool} (hg : o.guard = some (j, want)) (hd : guardDst ops.toList j = some g) : g ∈ o.looksAt ops := by
  unfold Oper.looksAt
  refine List.mem_append_right _ ?_
  unfold guardDst at hd
  rw [Array.getElem?_toList] at hd
  rw [hg]
  simp [hd]
theorem wants_cut {ops : Array Oper} {o : Oper} {e : Env} : wantsE ops.toList o (cut (o.looksAt ops) e) = wantsE ops.toList o e := by
  unfold wantsE
  split
  · rfl
  · rename_i j want hg
    split
    · rfl
    · rename_i g hd
      rw [cut_get, if_pos (guard_looks hg hd)]
theorem wanted_of {ops : Array Oper} {o : Oper} {e : Env} {b : Bool} {tmps : Array Value} (h : wantsE ops.toList o e = some b) (hE : EnvRel ρ e tmps) : Region.wanted o (yielded ops tmps) = b := by
  unfold wantsE at h
  unfold Region.wanted
  split at h
  · rename_i hg
    rw [hg]
    simpa using h
  · rename_i j want hg
    rw [hg]
    dsimp only
    split at h
    · rename_i hd
      have : yielded ops tmps j = none := by
        unfold guardDst at hd
        unfold yielded
        rw [Array.getElem?_toList] at hd
        rw [hd]; rfl
      rw [this]
      simpa using h
    · rename_i g hd
      have hr := hE g
      have hy : yielded ops tmps j = match tmps.getD g undef with | .bool b => some b | _ => none := by
        unfold guardDst at hd
        unfold yielded
        rw [Array.getElem?_toList] at hd
        rw [hd]
        simp only [Option.bind_some]
        rw [Array.getD_eq_getD_getElem?]
        cases tmps[g]? with
        | none => rfl
        | some v => simp only [Option.getD_some]; cases v <;> rfl
      rw [hy]
      split at h
      · rename_i c hc
        rw [hc] at hr
        generalize tmps.getD g undef = v at *
        cases hr
        simp only [Option.some.injEq] at h
        subst h
        simp
      · rename_i c hc
        rw [hc] at hr
        obtain ⟨xs, hv, _⟩ := hr.tup_inv
        rw [hv]
        simpa using h
      · cases h

/-- What an operation gives is known: it changes nothing, or is not wanted. -/
def Told (C : Ctx) (all : List Oper) (rt : Rt) (o : Oper) (e : Env) (h : Heap) (V : V) : Prop :=
  (wantsE all o e = some true ∧ ∀ k, (opK C o.op).run rt e h k = k V h) ∨ (wantsE all o e = some false ∧ V = tup0)

theorem told_cut {ops : Array Oper} {rt : Rt} {o : Oper} {e : Env} {h : Heap} {V : V} (ht : Told C ops.toList rt o e h V) : Told C ops.toList rt o (cut (o.looksAt ops) e) h V := by
  rcases ht with ⟨h1, h2⟩ | ⟨h1, h2⟩
  · exact .inl ⟨by rw [wants_cut]; exact h1, fun k => by rw [dep_cut]; exact h2 k⟩
  · exact .inr ⟨by rw [wants_cut]; exact h1, h2⟩
theorem cut_congr {ts : List Nat} {e e' : Env} (h : ∀ t ∈ ts, (eg t).get e = (eg t).get e') : cut ts e = cut ts e' := by
  unfold cut
  congr 1
  funext t
  split
  · exact h t ‹_›
  · rfl

/-- What was told ahead is taken. -/
theorem take_told {T : Rt → Prop} {rt : Rt} {r : Option Nat} {ops : Array Oper} {i : Nat} {o : Oper} {e : Env} {h : Heap} {V : V} {a : Act} {w : World} {K : Act → World → Prop} {Q : Exit → Act → World → Prop}
    (hop : OpOk T P C (opK C o.op) o) (hT : T rt) (ht : Told C ops.toList rt o e h V) (ho : ops[i]? = some o) (hE : EnvRel ρ e a.tmps) (hH : HeapRel P C ρ h w)
    (hK : ∀ v w' ρ', RelV ρ' V v → HeapRel P C ρ' h w' → Le ρ h w ρ' h w' → K (a.put o.dst v) w') : wpOpIn (fen r) 0 P ops Q i K a w := by
  unfold wpOpIn
  rw [ho]
  dsimp only
  rcases ht with ⟨h1, h2⟩ | ⟨h1, h2⟩
  · rw [wanted_of h1 hE, if_pos rfl]
    classical
    have hx : (opK C o.op).run rt e h (fun V' h' => decide (V' = V ∧ h' = h)) = true := by rw [h2]; simp
    refine hop rt r e h _ ρ a w hT hx hE hH K Q ?_
    rintro v w' ⟨V', h', ρ', hk, hv, hH', hL⟩
    obtain ⟨rfl, rfl⟩ := of_decide_eq_true hk
    exact hK v w' ρ' hv hH' hL
  · rw [wanted_of h1 hE]
    subst h2
    exact ⟨fun _ _ => trivial, hK undef w ρ (RelV.tup_of (x := #[]) .nil) hH (Le.refl _ _ _)⟩

/-- What an operation makes is known: an object, of a name that stands for nothing yet. -/
def Born (P : Program) (o : Oper) (e : Env) (i : Nat) (V : V) (O : O) : Prop :=
  ∀ (ρ : Ren) (a : Act) (w : World), EnvRel ρ e a.tmps → ∃ v ob B w', (execOp a.eval o).run P w = .ok (.value v) w' ∧ (w'.heap = w.heap.push ob ∧ Aside w w') ∧ B.b = w.heap.size ∧
    ∀ ρ' : Ren, (∀ j D, ρ j = some D → ρ' j = some D) → ρ' i = some B → RelV ρ' V v ∧ ObjRel P ρ' O B (some ob)

/-- An object of the evaluator's own is there for the machine, too. -/
theorem HeapRel.born {h : Heap} {w w' : World} {q : Nat} {ob : Obj} {B : Blk} (r : HeapRel P C ρ h w) (hq : ρ q = none) (hn : q < h.nx) (hw : w'.heap = w.heap.push ob) (hb : B.b = w.heap.size)
    (ho : ObjRel P (fun j => if j = q then some B else ρ j) (hget q h) B (some ob)) : HeapRel P C (fun j => if j = q then some B else ρ j) h w' := by
  have hren : ∀ i D, ρ i = some D → (if i = q then some B else ρ i) = some D := fun i D hi => by
    rw [if_neg (fun he => by rw [he, hq] at hi; cases hi)]; exact hi
  have hold : ∀ b, b < w.heap.size → w'.heap[b]? = w.heap[b]? := fun b hb => by
    rw [hw, Array.getElem?_push, if_neg (by omega)]
  refine ⟨fun i D hi => ?_, fun i D hi => ?_, fun i j D E hi hj li lj he => ?_, fun g cs hgl => ?_⟩
  · by_cases h1 : i = q
    · simp only [h1, if_true] at hi; cases hi; rw [hw]; simp; omega
    · simp only [h1, if_false] at hi
      have := r.dom i D hi
      rw [hw]; simp; omega
  · by_cases h1 : i = q
    · simp only [h1, if_true] at hi; cases hi
      rw [h1, hw, hb, Array.getElem?_push_size]
      exact ho
    · simp only [h1, if_false] at hi
      rw [hold _ (r.dom i D hi).2]
      exact (r.obj i D hi).mono hren
  · by_cases h1 : i = q <;> by_cases h2 : j = q
    · rw [h1, h2]
    · simp only [h1, h2, if_true, if_false] at hi hj; cases hi
      have := (r.dom j E hj).2; omega
    · simp only [h1, h2, if_true, if_false] at hi hj; cases hj
      have := (r.dom i D hi).2; omega
    · simp only [h1, h2, if_false] at hi hj
      exact r.inj i j D E hi hj li lj he
  · obtain ⟨h1, xs, t, fr, h2, h3⟩ := r.glob g cs hgl
    have hgs : g < w.heap.size := by
      rcases Nat.lt_or_ge g w.heap.size with h | h
      · exact h
      · rw [Array.getElem?_eq_none h] at h2; cases h2
    refine ⟨fun i D hi => ?_, xs, t, fr, by rw [hold g hgs]; exact h2, fun j v hv => let ⟨x, a, b⟩ := h3 j v hv; ⟨x, a, b.mono hren⟩⟩
    by_cases h4 : i = q
    · simp only [h4, if_true] at hi; cases hi; omega
    · simp only [h4, if_false] at hi; exact h1 i D hi
theorem Le.born {ρ₀ : Ren} {h₀ h : Heap} {w₀ w w' : World} {q : Nat} {ob : Obj} {B : Blk} (l : Le ρ₀ h₀ w₀ ρ h w) (hq : ρ q = none) (h0 : h₀.nx ≤ q) (hw : w'.heap = w.heap.push ob) (hb : B.b = w.heap.size) (ha : Aside w w') :
    Le ρ₀ h₀ w₀ (fun j => if j = q then some B else ρ j) h w' := by
  refine ⟨fun i D hi => ?_, by have := l.size; rw [hw]; simp; omega, fun b hb' hm => ?_, l.nx, fun i hi hn => ?_, l.aside.trans ha⟩
  · have := l.ren i D hi
    show (if i = q then some B else ρ i) = some D
    rw [if_neg (fun he => by rw [he, hq] at this; cases this)]; exact this
  · obtain ⟨h1, h2⟩ := l.frame b hb' hm
    have hs := l.size
    refine ⟨by rw [hw, Array.getElem?_push, if_neg (by omega)]; exact h1, ?_⟩
    rintro ⟨i, D, hi, hD, hl⟩
    by_cases h4 : i = q
    · simp only [h4, if_true] at hi; cases hi; omega
    · simp only [h4, if_false] at hi
      exact h2 ⟨i, D, hi, hD, hl⟩
  · obtain ⟨h1, h2⟩ := l.fresh i hi hn
    exact ⟨h1, by show (if i = q then some B else ρ i) = none; rw [if_neg (by omega)]; exact h2⟩
/-- An object of the evaluator's own. -/
theorem HeapRel.ahead {h h' : Heap} {w : World} {O : O} (r : HeapRel P C ρ h w) (hn : h'.nx = h.nx + 1) (hg : ∀ j, hget j h' = if j = h.nx then O else hget j h) : HeapRel P C ρ h' w := by
  have hsame : ∀ i D, ρ i = some D → hget i h' = hget i h := fun i D hi => by rw [hg, if_neg (by have := (r.dom i D hi).1; omega)]
  refine ⟨fun i D hi => by have := r.dom i D hi; omega, fun i D hi => by rw [hsame i D hi]; exact r.obj i D hi, fun i j D E hi hj li lj he => ?_, r.glob⟩
  rw [hsame i D hi] at li
  rw [hsame j E hj] at lj
  exact r.inj i j D E hi hj li lj he
theorem Le.ahead {ρ₀ : Ren} {h₀ h h' : Heap} {w₀ w : World} {O : O} (l : Le ρ₀ h₀ w₀ ρ h w) (r : HeapRel P C ρ h w) (hn : h'.nx = h.nx + 1) (hg : ∀ j, hget j h' = if j = h.nx then O else hget j h) : Le ρ₀ h₀ w₀ ρ h' w := by
  refine ⟨l.ren, l.size, fun b hb hm => ?_, by have := l.nx; omega, fun i hi hnn => ?_, l.aside⟩
  · obtain ⟨h1, h2⟩ := l.frame b hb hm
    refine ⟨h1, ?_⟩
    rintro ⟨i, D, hi, hD, hl⟩
    rw [hg, if_neg (by have := (r.dom i D hi).1; omega)] at hl
    exact h2 ⟨i, D, hi, hD, hl⟩
  · obtain ⟨h1, h2⟩ := l.fresh i hi hnn
    exact ⟨by rw [hg, if_neg (by have := l.nx; omega)]; exact h1, h2⟩

/-- What was made ahead is taken. -/
theorem take_born {r : Option Nat} {ops : Array Oper} {i q : Nat} {o : Oper} {e : Env} {h : Heap} {V : V} {a : Act} {w : World} {K : Act → World → Prop} {Q : Exit → Act → World → Prop} (hd : ∀ c, o.op ≠ .defer c)
    (hw : wantsE ops.toList o e = some true) (hb : Born P o e q V (hget q h)) (ho : ops[i]? = some o) (hE : EnvRel ρ e a.tmps) (hH : HeapRel P C ρ h w) (hq : ρ q = none) (hn : q < h.nx)
    (hK : ∀ v w' ob B, (w'.heap = w.heap.push ob ∧ Aside w w') → B.b = w.heap.size → RelV (fun j => if j = q then some B else ρ j) V v → HeapRel P C (fun j => if j = q then some B else ρ j) h w' → K (a.put o.dst v) w') : wpOpIn (fen r) 0 P ops Q i K a w := by
  unfold wpOpIn
  rw [ho]
  dsimp only
  rw [wanted_of hw hE, if_pos rfl]
  obtain ⟨v, ob, B, w', h1, h2, h3, h4⟩ := hb ρ a w hE
  have hren : ∀ i D, ρ i = some D → (if i = q then some B else ρ i) = some D := fun i D hi => by
    rw [if_neg (fun he => by rw [he, hq] at hi; cases hi)]; exact hi
  obtain ⟨h5, h6⟩ := h4 (fun j => if j = q then some B else ρ j) hren (by simp)
  refine ⟨fun _ _ => trivial, ?_⟩
  rw [Oper.semAt_plain _ _ _ hd, h1]
  exact hK v w' ob B h2 h3 h5 (hH.born hq hn h2.1 h3 h6)

theorem put_cases {nt : Nat} {dst : Option Nat} {V : V} {e : Env} {k : Env → Bool} (hp : (putK nt dst).put V e k = true) : ∃ e', k e' = true ∧ ∀ t, (eg t).get e' = if dst = some t then V else (eg t).get e := by
  cases dst with
  | none => exact ⟨e, hp, fun t => by simp⟩
  | some d =>
    unfold putK at hp
    dsimp only at hp
    split at hp
    · obtain ⟨e', hk, he⟩ := ep_put hp
      refine ⟨e', hk, fun t => ?_⟩
      rw [he]
      by_cases ht : t = d
      · rw [if_pos ht, if_pos (by rw [ht])]
      · rw [if_neg ht, if_neg (fun h => ht (Option.some.inj h).symm)]
    · exact absurd hp (by simp)

theorem operK_cases {nt : Nat} {rt : Rt} {ops : Array Oper} {o : Oper} {rest : RegK} {ds : List D} {e : Env} {h : Heap} {k : List D → Env → Heap → Bool} (hd : ∀ c, o.op ≠ .defer c) (hx : (operK C nt ops.toList o rest).run rt ds e h k = true) :
    (wantsE ops.toList o e = some true ∧ (opK C o.op).run rt e h (fun v h => (putK nt o.dst).put v e (fun e => rest.run rt ds e h k)) = true) ∨
    (wantsE ops.toList o e = some false ∧ (putK nt o.dst).put tup0 e (fun e => rest.run rt ds e h k) = true) := by
  have step : (stepK C nt o rest).run rt ds e h k = true → (opK C o.op).run rt e h (fun v h => (putK nt o.dst).put v e (fun e => rest.run rt ds e h k)) = true := by
    intro hx
    unfold stepK at hx
    split at hx
    · rename_i c hc; exact absurd hc (hd c)
    · exact hx
  unfold operK at hx
  split at hx
  · rename_i hg
    exact .inl ⟨by simp [wantsE, hg], step hx⟩
  · rename_i j want hg
    split at hx
    · rename_i hgd
      exact .inr ⟨by simp [wantsE, hg, hgd], hx⟩
    · rename_i g hgd
      split at hx
      · exact absurd hx (by simp)
      · split at hx
        · have hx : V.guard ((eg g).get e) (fun t => ifb t ((stepK C nt o rest).run rt ds e h k) ((skipOp nt o rest).run rt ds e h k)) = true := hx
          rcases V.guard_true.1 hx with ⟨b, hb, hx⟩ | ⟨cs, hb, hx⟩
          · cases b with
            | true => exact .inl ⟨by simp [wantsE, hg, hgd, hb], step hx⟩
            | false => exact .inr ⟨by simp [wantsE, hg, hgd, hb], hx⟩
          · exact .inr ⟨by simp [wantsE, hg, hgd, hb], hx⟩
        · have hx : V.ifBool ((eg g).get e) (fun t => ifb t ((skipOp nt o rest).run rt ds e h k) ((stepK C nt o rest).run rt ds e h k)) (V.onTup ((eg g).get e) (fun _ => (skipOp nt o rest).run rt ds e h k)) = true := hx
          rcases V.ifBool_true.1 hx with ⟨b, hb, hx⟩ | ⟨_, hx⟩
          · cases b with
            | true => exact .inr ⟨by simp [wantsE, hg, hgd, hb], hx⟩
            | false => exact .inl ⟨by simp [wantsE, hg, hgd, hb], step hx⟩
          · obtain ⟨cs, hb, hx⟩ := V.onTup_true.1 hx
            exact .inr ⟨by simp [wantsE, hg, hgd, hb], hx⟩

/-- A step of a drawn region, ahead of its time. -/
theorem exec_told {nt : Nat} {rt : Rt} {ops : Array Oper} {o : Oper} {rest : RegK} {ds : List D} {e : Env} {h : Heap} {k : List D → Env → Heap → Bool} (hc : opCls C o.op ≤ 1) (hd : ∀ c, o.op ≠ .defer c)
    (hx : (operK C nt ops.toList o rest).run rt ds e h k = true) : ∃ V e', Told C ops.toList rt o e h V ∧ rest.run rt ds e' h k = true ∧ ∀ t, (eg t).get e' = if o.dst = some t then V else (eg t).get e := by
  rcases operK_cases hd hx with ⟨hw, hx⟩ | ⟨hw, hx⟩
  · obtain ⟨g, hg, hrun⟩ := readL_op hc e h
    rw [hrun] at hx
    rcases hg with ⟨V, hV⟩ | hno
    · rw [hV] at hx
      obtain ⟨e', h1, h2⟩ := put_cases hx
      exact ⟨V, e', .inl ⟨hw, fun k => by rw [hrun, hV]⟩, h1, h2⟩
    · rw [hno] at hx; exact absurd hx (by simp)
  · obtain ⟨e', h1, h2⟩ := put_cases hx
    exact ⟨tup0, e', .inr ⟨hw, rfl⟩, h1, h2⟩

/-- A step that makes an object. -/
def BornOk (P : Program) (x : OpK) (o : Oper) : Prop := ∀ (rt : Rt) (e : Env) (h : Heap) (k : V → Heap → Bool), x.run rt e h k = true →
  ∃ V O h', k V h' = true ∧ h'.nx = h.nx + 1 ∧ (∀ j, hget j h' = if j = h.nx then O else hget j h) ∧ Born P o e h.nx V O

theorem exec_born {nt : Nat} {rt : Rt} {ops : Array Oper} {o : Oper} {rest : RegK} {ds : List D} {e : Env} {h : Heap} {k : List D → Env → Heap → Bool} (hb : BornOk P (opK C o.op) o) (hd : ∀ c, o.op ≠ .defer c)
    (hx : (operK C nt ops.toList o rest).run rt ds e h k = true) :
    (wantsE ops.toList o e = some true ∧ ∃ V O h' e', h'.nx = h.nx + 1 ∧ (∀ j, hget j h' = if j = h.nx then O else hget j h) ∧ Born P o (cut (o.looksAt ops) e) h.nx V O ∧ rest.run rt ds e' h' k = true ∧ ∀ t, (eg t).get e' = if o.dst = some t then V else (eg t).get e) ∨
    (wantsE ops.toList o e = some false ∧ ∃ e', rest.run rt ds e' h k = true ∧ ∀ t, (eg t).get e' = if o.dst = some t then tup0 else (eg t).get e) := by
  rcases operK_cases hd hx with ⟨hw, hx⟩ | ⟨hw, hx⟩
  · rw [← dep_cut (ops := ops)] at hx
    obtain ⟨V, O, h', h1, h2, h3, h4⟩ := hb rt _ h _ hx
    obtain ⟨e', h5, h6⟩ := put_cases h1
    exact .inl ⟨hw, V, O, h', e', h2, h3, h4, h5, h6⟩
  · obtain ⟨e', h5, h6⟩ := put_cases hx
    exact .inr ⟨hw, e', h5, h6⟩

/-- What is told again: what it was. -/
theorem tell_told {nt : Nat} {rt : Rt} {ops : Array Oper} {o : Oper} {rest : RegK} {ds : List D} {e : Env} {h : Heap} {k : List D → Env → Heap → Bool} (hc : opCls C o.op ≤ 1)
    (hx : (tellK C nt ops.toList o rest).run rt ds e h k = true) : rest.run rt ds e h k = true ∧ ∃ V, Told C ops.toList rt o e h V ∧ (wantsE ops.toList o e = some true → ∀ d, o.dst = some d → (eg d).get e = V) := by
  have tell : wantsE ops.toList o e = some true → (match o.dst with
      | some d => (⟨fun rt ds e h k => (opK C o.op).run rt e h (fun v _ => ifb (V.same v ((eg d).get e)) (rest.run rt ds e h k) false)⟩ : RegK)
      | none => ⟨fun rt ds e h k => (opK C o.op).run rt e h (fun _ _ => rest.run rt ds e h k)⟩).run rt ds e h k = true → rest.run rt ds e h k = true ∧ ∃ V, Told C ops.toList rt o e h V ∧ (wantsE ops.toList o e = some true → ∀ d, o.dst = some d → (eg d).get e = V) := by
    intro hw hx
    obtain ⟨g, hg, hrun⟩ := readL_op hc e h
    split at hx
    · rename_i d hd
      change (opK C o.op).run rt e h (fun v _ => ifb (V.same v ((eg d).get e)) (rest.run rt ds e h k) false) = true at hx
      rw [hrun] at hx
      rcases hg with ⟨V, hV⟩ | hno
      · rw [hV] at hx
        obtain ⟨h1, h2⟩ := ifb_and.1 hx
        refine ⟨h2, V, .inl ⟨hw, fun k => by rw [hrun, hV]⟩, fun _ d' hd' => ?_⟩
        rw [hd] at hd'
        cases hd'
        exact (same_eq h1).symm
      · rw [hno] at hx; exact absurd hx (by simp)
    · rename_i hd
      change (opK C o.op).run rt e h (fun _ _ => rest.run rt ds e h k) = true at hx
      rw [hrun] at hx
      rcases hg with ⟨V, hV⟩ | hno
      · rw [hV] at hx
        exact ⟨hx, V, .inl ⟨hw, fun k => by rw [hrun, hV]⟩, fun _ d' hd' => by rw [hd] at hd'; cases hd'⟩
      · rw [hno] at hx; exact absurd hx (by simp)
  have no : wantsE ops.toList o e = some false → rest.run rt ds e h k = true → rest.run rt ds e h k = true ∧ ∃ V, Told C ops.toList rt o e h V ∧ (wantsE ops.toList o e = some true → ∀ d, o.dst = some d → (eg d).get e = V) :=
    fun hw hx => ⟨hx, tup0, .inr ⟨hw, rfl⟩, fun h1 => by rw [hw] at h1; cases h1⟩
  unfold tellK at hx
  dsimp only at hx
  split at hx
  · rename_i hg
    exact tell (by simp [wantsE, hg]) hx
  · rename_i j want hg
    split at hx
    · rename_i hgd
      exact no (by simp [wantsE, hg, hgd]) hx
    · rename_i g hgd
      split at hx
      · rcases V.guard_true.1 hx with ⟨b, hb, hx⟩ | ⟨cs, hb, hx⟩
        · cases b with
          | true => exact tell (by simp [wantsE, hg, hgd, hb]) hx
          | false => exact no (by simp [wantsE, hg, hgd, hb]) hx
        · exact no (by simp [wantsE, hg, hgd, hb]) hx
      · rcases V.ifBool_true.1 hx with ⟨b, hb, hx⟩ | ⟨_, hx⟩
        · cases b with
          | true => exact no (by simp [wantsE, hg, hgd, hb]) hx
          | false => exact tell (by simp [wantsE, hg, hgd, hb]) hx
        · obtain ⟨cs, hb, hx⟩ := V.onTup_true.1 hx
          exact no (by simp [wantsE, hg, hgd, hb]) hx
end
end Go.Ev
end

section
/- Objects made ahead of their time. -/
namespace Go.Ev
open Go
set_option linter.unusedVariables false
set_option linter.unusedSimpArgs false
section
variable {P : Program} {C : Ctx} {ρ : Ren}

theorem born_zeros {hp : Heap} {el m : Nat} {wh : Bool} {zs : List V} {k : Nat → Heap → Bool} (h : emptyC m (fun c => hnew (.row el m 0 wh zs c) hp k) = true) :
    ∃ O hp', k hp.nx hp' = true ∧ hp'.nx = hp.nx + 1 ∧ (∀ j, hget j hp' = if j = hp.nx then O else hget j hp) ∧ ∀ (ρ : Ren) (s z b : Nat) (zv : List Value) (xs : Array Value), RelL ρ zs zv → (∀ v ∈ zs, v.isOne = true) → P.cellsOf el = z → zs.length = z →
      m = s * z → xs.size = m → (∀ j, j < m → xs[j]? = zv[j % zv.length]?) → ObjRel P ρ O ⟨b, s, z⟩ (some (.cells xs el)) := by
  obtain ⟨c, h, hc⟩ := emptyC_spec h
  obtain ⟨hp', hk, hn, hg⟩ := hnew_spec h
  refine ⟨_, hp', hk, hn, hg, fun ρ s z b zv xs hr h1 hz hzl hs hx hxj => ?_⟩
  refine ⟨xs, (0, 0), rfl, by rw [hx, hs], hz, by omega, fun _ => by omega, fun j _ _ => by simp, fun j hj => ?_⟩
  have hzp : 0 < zs.length := by
    rcases Nat.eq_zero_or_pos zs.length with h | h
    · rw [← hzl, h, Nat.mul_zero] at hs; omega
    · exact h
  have hj1 : j % zs.length < zs.length := Nat.mod_lt _ hzp
  have hj2 : j % zv.length < zv.length := by rw [← hr.1]; exact hj1
  refine ⟨zs[j % zs.length], zv[j % zv.length], by rw [cellV_empty hc, List.getElem?_eq_getElem hj1], by rw [hxj j hj, List.getElem?_eq_getElem hj2], h1 _ (List.getElem_mem hj1), ?_⟩
  refine hr.2 (j % zs.length) _ _ (List.getElem?_eq_getElem hj1) ?_
  rw [hr.1, List.getElem?_eq_getElem hj2]

theorem born_row {hp : Heap} {el m : Nat} {wh : Bool} {zs cs : List V} {k : Nat → Heap → Bool} (h : emptyC m (fun c => layC cs 0 c (fun c => hnew (.row el m 0 wh zs c) hp k)) = true) :
    ∃ O hp', k hp.nx hp' = true ∧ hp'.nx = hp.nx + 1 ∧ (∀ j, hget j hp' = if j = hp.nx then O else hget j hp) ∧ ∀ (ρ : Ren) (s z b : Nat) (xs : List Value), RelL ρ cs xs → (∀ v ∈ cs, v.isOne = true) → cs.length = m → P.cellsOf el = z →
      m = s * z → ObjRel P ρ O ⟨b, s, z⟩ (some (.cells xs.toArray el)) := by
  obtain ⟨c, h, hc⟩ := emptyC_spec h
  obtain ⟨c', h, hc'⟩ := layC_spec h
  obtain ⟨hp', hk, hn, hg⟩ := hnew_spec h
  refine ⟨_, hp', hk, hn, hg, fun ρ s z b xs hr h1 hm hz hs => ?_⟩
  have hxs : xs.length = m := by rw [← hr.1]; exact hm
  refine ⟨xs.toArray, (0, 0), rfl, by simp [hxs, hs], hz, by simp [hxs], fun _ => by simp [hxs], fun j _ _ => by simp, fun j hj => ?_⟩
  have hj1 : j < cs.length := by omega
  have hj2 : j < xs.length := by omega
  have hv1 := h1 _ (List.getElem_mem hj1)
  refine ⟨cs[j], xs[j], cellV_set ?_ (fun he => by rw [he] at hv1; simp [V.isOne] at hv1), by simp [hj2], hv1, hr.2 j _ _ (List.getElem?_eq_getElem hj1) (List.getElem?_eq_getElem hj2)⟩
  rw [hc' j, if_pos (by omega)]
  simp [hj1]

theorem BornOk.bad {o : Oper} : BornOk P badK o := fun rt e h k hx => absurd hx (by simp [badK])
theorem born_alloc {o : Oper} {t : Nat} (hC : CtxOk P C) (ho : o.op = .alloc t) : BornOk P (allocK C t) o := by
  unfold allocK
  split
  · rename_i ti hti
    obtain ⟨inf, h1, h2, _, h3, z, h4, _, h5, h6, h7, _⟩ := hC.ty t ti hti
    intro rt e h k hx
    have hx : emptyC ti.sz (fun c => hnew (.row t ti.sz 0 true ti.zeros c) h (fun i h => k (.ptr i 0) h)) = true := hx
    obtain ⟨O, h', hk, hn, hg, hO⟩ := born_zeros (P := P) hx
    refine ⟨_, O, h', hk, hn, hg, fun ρ a w hE => ?_⟩
    have hzl : z.cells.toList.length = ti.sz := by rw [← (h5 ρ).1]; exact h7
    refine ⟨.pointer (some ⟨w.heap.size, 0, none⟩), .cells z.cells t, ⟨w.heap.size, 1, ti.sz⟩, w.alloc (.cells z.cells t), ?_, ⟨rfl, rfl, rfl⟩, rfl, fun ρ' hρ hB => ⟨.ptr _ _ ⟨w.heap.size, 1, ti.sz⟩ hB, ?_⟩⟩
    · simp [execOp, ho, Instr.alloc, zeroValue, typeInfo, h1, h4, newVar, newRow]
    · exact hO ρ' 1 ti.sz _ z.cells.toList z.cells (h5 ρ') h6 (by rw [cellsOf_size h1, h2]) h7 (by omega) (by simpa using hzl) (fun j hj => by rw [hzl, Nat.mod_eq_of_lt hj]; simp)
  · exact .bad

theorem onNat_val {v : V} {q : Nat → Bool} (h : V.onNat v q = true) : ∃ n : Nat, q n = true ∧ ∀ (ρ : Ren) x, RelV ρ v x → ∃ k, x = .int k (n : Int) := by
  rcases onNat_true h with ⟨n, rfl, h1⟩ | ⟨k, n, rfl, h1⟩
  · exact ⟨n, h1, fun ρ x hr => by cases hr; exact ⟨_, rfl⟩⟩
  · exact ⟨n, h1, fun ρ x hr => by cases hr; exact ⟨k, rfl⟩⟩

theorem born_makeSlice {o : Oper} {t : Nat} {l c : Operand} (hC : CtxOk P C) (ho : o.op = .makeSlice t l c) : BornOk P (makeSliceK C t l c) o := by
  unfold makeSliceK
  split
  · rename_i ti hti
    obtain ⟨inf, h1, h2, h3⟩ := ty_some hC hti
    split
    · rename_i el hdesc
      rw [hdesc] at h3
      split
      · rename_i ei hei
        obtain ⟨ie, g1, g2, g2b, g3, z, g4, _, g5, g6, g7, _⟩ := hC.ty el ei hei
        intro rt e h k hx
        have hx : V.onNat ((opnd l).get e) (fun n => V.onNat ((opnd c).get e) (fun m => ifb (Nat.ble n m) (ifb (Nat.ble m 4294967296) (ifb (Nat.ble (Nat.mul ei.bytes m) 281474976710656)
          (frc (Nat.mul m ei.sz) (fun s => emptyC s (fun c => hnew (.row el s 0 true ei.zeros c) h (fun i h => k (.sl i 0 n (.known m)) h)))) false) false) false)) = true := hx
        obtain ⟨n, hx, hl⟩ := onNat_val hx
        obtain ⟨m, hx, hc⟩ := onNat_val hx
        obtain ⟨b1, hx⟩ := ifb_and.1 hx
        obtain ⟨b2, hx⟩ := ifb_and.1 hx
        obtain ⟨b3, hx⟩ := ifb_and.1 hx
        have b1 := Nat.le_of_ble_eq_true b1
        have b2 := Nat.le_of_ble_eq_true b2
        have b3 : ei.bytes * m ≤ 281474976710656 := Nat.le_of_ble_eq_true b3
        rw [frc_eq] at hx
        have hx : emptyC (m * ei.sz) (fun c => hnew (.row el (m * ei.sz) 0 true ei.zeros c) h (fun i h => k (.sl i 0 n (.known m)) h)) = true := hx
        obtain ⟨O, h', hk, hn, hg, hO⟩ := born_zeros (P := P) hx
        refine ⟨_, O, h', hk, hn, hg, fun ρ a w hE => ?_⟩
        obtain ⟨kl, hl⟩ := hl ρ _ (opnd_rel hE l)
        obtain ⟨kc, hc⟩ := hc ρ _ (opnd_rel hE c)
        have hzl : z.cells.toList.length = ei.sz := by rw [← (g5 ρ).1]; exact g7
        have hrun0 := run_make (P := P) w t el ie z h3 g1 g4 kl kc (n : Int) (m : Int) (by omega) (by exact_mod_cast b1)
          (by rw [g2b]; have b3' : ((ei.bytes * m : Nat) : Int) ≤ ((281474976710656 : Nat) : Int) := Int.ofNat_le.2 b3; rw [Int.natCast_mul] at b3'; exact b3') (by omega)
        simp only [Int.toNat_natCast, g2] at hrun0
        refine ⟨.slice (some ⟨w.heap.size, 0, none⟩) n m, .cells (madeCells z.cells (m * ei.sz)) el, ⟨w.heap.size, m, ei.sz⟩, w.alloc (.cells (madeCells z.cells (m * ei.sz)) el), ?_, ⟨rfl, rfl, rfl⟩, rfl, fun ρ' hρ hB => ⟨.sl _ _ _ _ _ ⟨w.heap.size, m, ei.sz⟩ hB rfl b1, ?_⟩⟩
        · simp only [execOp, ho, Sem.run_bind, hl, hc, hrun0, Result.andThen_ok, Sem.run_pure]
        · refine hO ρ' m ei.sz _ z.cells.toList _ (g5 ρ') g6 (by rw [cellsOf_size g1, g2]) g7 rfl (size_madeCells _ _) (fun j hj => ?_)
          have hz0 : 0 < ei.sz := by
            rcases Nat.eq_zero_or_pos ei.sz with h | h
            · rw [h, Nat.mul_zero] at hj; omega
            · exact h
          have hzs : z.cells.size = ei.sz := by rw [← hzl]; simp
          have hlt : j % z.cells.size < z.cells.size := Nat.mod_lt _ (by omega)
          rw [show z.cells.toList.length = z.cells.size by simp, Array.getElem?_toList, Array.getElem?_eq_getElem hlt]
          unfold madeCells
          rw [Array.getElem?_map, Array.getElem?_range, if_pos hj]
          simp [hlt]
      · exact .bad
    · exact .bad
  · exact .bad

theorem born_buildSlice {o : Oper} {t n : Nat} {parts : Array (Nat × Operand)} (hC : CtxOk P C) (ho : o.op = .buildSlice t n parts) : BornOk P (buildSliceK C t n parts.toList) o := by
  unfold buildSliceK
  split
  · rename_i ti hti
    obtain ⟨inf, h1, h2, h3⟩ := ty_some hC hti
    split
    · rename_i el hdesc
      rw [hdesc] at h3
      split
      · rename_i ei hei
        obtain ⟨ie, g1, g2, _, g3, z, g4, _, g5, g6, g7, _⟩ := hC.ty el ei hei
        split
        · rename_i hparts
          intro rt e h k hx
          have hx : emptyC 0 (fun c => layC [] 0 c (fun c => hnew (.row el 0 0 true ei.zeros c) h (fun i h => k (.sl i 0 0 (.known 0)) h))) = true := hx
          obtain ⟨O, h', hk, hn, hg, hO⟩ := born_row (P := P) hx
          refine ⟨_, O, h', hk, hn, hg, fun ρ a w hE => ?_⟩
          refine ⟨.slice (some ⟨w.heap.size, 0, none⟩) 0 0, .cells #[] el, ⟨w.heap.size, 0, ei.sz⟩, w.alloc (.cells #[] el), ?_, ⟨rfl, rfl, rfl⟩, rfl, fun ρ' hρ hB => ⟨.sl _ _ _ _ _ ⟨w.heap.size, 0, ei.sz⟩ hB rfl (Nat.le_refl 0), ?_⟩⟩
          · have hp : parts = #[] := by
              apply Array.ext'
              exact hparts
            simp [execOp, ho, Instr.buildSlice, run_und h3, run_size g1, hp, Instr.fill, newRow]
            have e0 : Array.range 0 = #[] := Array.ext' (by simp)
            rw [e0, Array.map_empty]
          · exact hO ρ' 0 ei.sz _ [] .nil (by simp) rfl (by rw [cellsOf_size g1, g2]) (by simp)
        · dsimp only
          rename_i n _ _ _
          split
          · rename_i ps hps
            split
            · rename_i l hl hdec
              obtain ⟨d1, d2⟩ := of_decide_eq_true hdec
              have hzp : 0 < ei.zeros.length := by
                rw [g7]
                rcases Nat.eq_zero_or_pos ei.sz with h | h
                · rw [h, Nat.mul_zero] at d1; omega
                · exact h
              intro rt e h k hx
              have hall := (mapM_all2 hps).mono fun p q hpq => place_array (ti := { ti with desc := .array n el }) hC rfl g1 hpq
              have hx : (srcK l).run e (fun l => emptyC (n * ei.sz) (fun c => layC l 0 c (fun c => hnew (.row el (n * ei.sz) 0 true ei.zeros c) h (fun i h => k (.sl i 0 n (.known n)) h)))) = true := hx
              rcases lin_src (l := l) (e := e) (F := fun v q => q v) (fun v => lin_ret v) with ⟨cs, hcs⟩ | hno
              · have hcs : ∀ q, (srcK l).run e q = q cs := hcs
                rw [hcs] at hx
                obtain ⟨O, h', hk, hn, hg, hO⟩ := born_row (P := P) hx
                refine ⟨_, O, h', hk, hn, hg, fun ρ a w hE => ?_⟩
                classical
                have hx' : (srcK l).run e (fun l => decide (l = cs)) = true := by rw [hcs]; simp
                obtain ⟨cs', xs, h7, h8, h9, h10, h11⟩ := fill_srcs hE parts.toList ps 0 (rowZ ei.zeros (n * ei.sz)) _ [] l _ hall hl rfl (rowZ_rel (m := n * ei.sz) (g5 ρ) hzp) (rowZ_one g6 hzp) hx'
                have h7 : cs' = cs := of_decide_eq_true h7
                subst h7
                have hlen : cs'.length = n * ei.sz := by rw [h8.1, h11]; simp
                refine ⟨.slice (some ⟨w.heap.size, 0, none⟩) n n, .cells xs.toArray el, ⟨w.heap.size, n, ei.sz⟩, w.alloc (.cells xs.toArray el), ?_, ⟨rfl, rfl, rfl⟩, rfl, fun ρ' hρ hB => ⟨.sl _ _ _ _ _ ⟨w.heap.size, n, ei.sz⟩ hB rfl (Nat.le_refl n), ?_⟩⟩
                · have := run_buildSlice (P := P) w t el n (parts.map fun (p : Nat × Operand) => (p.1, a.eval p.2)) xs.toArray ie z h3 g1 g4 (by rw [g2]; have : (2 : Nat) ^ 24 = 16777216 := rfl; omega) (by rw [g2]; omega)
                    (by rw [List.nil_append, List.nil_append, Array.toArray_toList, ← g2] at h10; rw [Array.toList_map]; exact h10)
                  simp only [execOp, ho, Sem.run_bind, this, Result.andThen_ok, Sem.run_pure]
                · exact hO ρ' n ei.sz _ xs (h8.mono hρ) h9 hlen (by rw [cellsOf_size g1, g2]) rfl
              · have hno : ∀ q, (srcK l).run e q = false := hno
                rw [hno] at hx; exact absurd hx (by simp)
            · exact .bad
          · exact .bad
      · exact .bad
    · exact .bad
  · exact .bad

theorem born_op {o : Oper} (hC : CtxOk P C) (h : opCls C o.op = 2) : BornOk P (opK C o.op) o := by
  cases ho : o.op
  case alloc t => exact born_alloc hC ho
  case makeSlice t l c => exact born_makeSlice hC ho
  case buildSlice t n ps => exact born_buildSlice hC ho
  all_goals
    rw [ho] at h
    unfold opCls at h
    dsimp only at h
    repeat' split at h
    all_goals (exact absurd h (by decide))
end
end Go.Ev
end

section
/- A drawn region: what its table of order must show; the state between two operations. -/
namespace Go.Ev
open Go
set_option linter.unusedVariables false
set_option linter.unusedSimpArgs false
section

def predsOf (o : Oper) : List Nat := (o.after.toList.filter (Region.binds .any)).map (·.on)
def ancOf (A : List (List Nat)) (p i : Nat) : Bool := (A.getD i []).contains p
def unionN (a b : List Nat) : List Nat := a.foldl (fun s x => if s.contains x then s else x :: s) b
def ancs (all : List Oper) : List (List Nat) := all.foldl (fun acc o => acc ++ [(predsOf o).foldl (fun s p => unionN (p :: acc.getD p []) s) []]) []
def isDef (o : Oper) : Bool := match o.op with | .defer _ => true | _ => false
def dstOf (all : List Oper) (i : Nat) : Option Nat := (pickO all i).dst
def clsOf (C : Ctx) (all : List Oper) (i : Nat) : Nat := opCls C (pickO all i).op

def drawChk (C : Ctx) (ops : Array Oper) (A : List (List Nat)) : List Nat → List (Nat × List Nat) → Bool
  | _, [] => true
  | done, (i, ck) :: r =>
    decide (i < ops.size) && !done.contains i && (predsOf (pickO ops.toList i)).all done.contains &&
    done.all (fun j => clsOf C ops.toList j != 3 || ancOf A j i) &&
    (decide (clsOf C ops.toList i ≤ 1) || done.all fun j => clsOf C ops.toList j != 1 || (clsOf C ops.toList i == 3 && ancOf A j i) || ck.contains j) &&
    ck.all (fun j => decide (clsOf C ops.toList j ≤ 1) && ((pickO ops.toList j).looksAt ops).all fun t => (List.range ops.size).all fun m => dstOf ops.toList m != some t || ancOf A m j || r.any (·.1 == m)) &&
    !isDef (pickO ops.toList i) && drawChk C ops A (i :: done) r

def drawAll (C : Ctx) (nt : Nat) (ops : Array Oper) (A : List (List Nat)) (l : List (Nat × List Nat)) : Bool :=
  drawChk C ops A [] l && (List.range ops.size).all (fun i => l.any (·.1 == i)) &&
  (List.range ops.size).all (fun i => (A.getD i []).all fun p => (predsOf (pickO ops.toList i)).contains p || (predsOf (pickO ops.toList i)).any fun q => ancOf A p q) &&
  (List.range ops.size).all (fun i => (List.range ops.size).all fun j => i == j || dstOf ops.toList i == none || dstOf ops.toList i != dstOf ops.toList j) &&
  (List.range ops.size).all (fun i => match dstOf ops.toList i with | some d => decide (d < nt) | none => true) &&
  (List.range ops.size).all (fun i => (List.range ops.size).all fun j => match dstOf ops.toList j with
    | some d => !((pickO ops.toList i).looksAt ops).contains d || (i != j && (ancOf A j i || ancOf A i j))
    | none => true)

structure DrawOk (C : Ctx) (nt : Nat) (ops : Array Oper) (A : List (List Nat)) : Prop where
  closed : ∀ i p, i < ops.size → ancOf A p i = true → p ∈ predsOf (pickO ops.toList i) ∨ ∃ q ∈ predsOf (pickO ops.toList i), ancOf A p q = true
  dst : ∀ i j d, i < ops.size → j < ops.size → dstOf ops.toList i = some d → dstOf ops.toList j = some d → i = j
  dlt : ∀ i d, i < ops.size → dstOf ops.toList i = some d → d < nt
  look : ∀ i j d, i < ops.size → j < ops.size → dstOf ops.toList j = some d → d ∈ (pickO ops.toList i).looksAt ops → i ≠ j ∧ (ancOf A j i = true ∨ ancOf A i j = true)

structure HeadOk (C : Ctx) (ops : Array Oper) (A : List (List Nat)) (done : List Nat) (i : Nat) (ck : List Nat) (r : List (Nat × List Nat)) : Prop where
  lt : i < ops.size
  new : i ∉ done
  preds : ∀ p ∈ predsOf (pickO ops.toList i), p ∈ done
  world : ∀ j ∈ done, clsOf C ops.toList j = 3 → ancOf A j i = true
  tells : 2 ≤ clsOf C ops.toList i → ∀ j ∈ done, clsOf C ops.toList j = 1 → (clsOf C ops.toList i = 3 ∧ ancOf A j i = true) ∨ j ∈ ck
  told : ∀ j ∈ ck, clsOf C ops.toList j ≤ 1 ∧ ∀ t ∈ (pickO ops.toList j).looksAt ops, ∀ m, m < ops.size → dstOf ops.toList m = some t → ancOf A m j = true ∨ ∃ p ∈ r, p.1 = m
  plain : ∀ c, (pickO ops.toList i).op ≠ .defer c
  rest : drawChk C ops A (i :: done) r = true

theorem drawChk_head {C : Ctx} {ops : Array Oper} {A : List (List Nat)} {done : List Nat} {i : Nat} {ck : List Nat} {r : List (Nat × List Nat)} (h : drawChk C ops A done ((i, ck) :: r) = true) : HeadOk C ops A done i ck r := by
  simp only [drawChk, Bool.and_eq_true] at h
  obtain ⟨⟨⟨⟨⟨⟨⟨h1, h2⟩, h3⟩, h4⟩, h5⟩, h6⟩, h7⟩, h8⟩ := h
  refine ⟨of_decide_eq_true h1, by simpa using h2, fun p hp => by simpa using List.all_eq_true.1 h3 p hp, fun j hj hc => ?_, fun hc j hj hj1 => ?_, fun j hj => ?_, fun c hc => ?_, h8⟩
  · have := List.all_eq_true.1 h4 j hj
    simpa [hc] using this
  · rcases Bool.or_eq_true _ _ ▸ h5 with h5 | h5
    · have := of_decide_eq_true h5; omega
    · have := List.all_eq_true.1 h5 j hj
      simpa [hj1] using this
  · have := List.all_eq_true.1 h6 j hj
    rw [Bool.and_eq_true] at this
    refine ⟨of_decide_eq_true this.1, fun t ht m hm hd => ?_⟩
    have := List.all_eq_true.1 (List.all_eq_true.1 this.2 t ht) m (by simpa using hm)
    rw [hd] at this
    simp only [bne_self_eq_false, Bool.false_or, Bool.or_eq_true] at this
    rcases this with h | h
    · exact .inl h
    · obtain ⟨p, hp, he⟩ := List.any_eq_true.1 h
      exact .inr ⟨p, hp, by simpa using he⟩
  · simp [isDef, hc] at h7

theorem drawChk_notin {C : Ctx} {ops : Array Oper} {A : List (List Nat)} : ∀ {r : List (Nat × List Nat)} {done : List Nat}, drawChk C ops A done r = true → ∀ p ∈ r, p.1 ∉ done
  | [], done, h, p, hp => by cases hp
  | (i, ck) :: r, done, h, p, hp => by
    have hh := drawChk_head h
    cases hp with
    | head => exact hh.new
    | tail _ hp => exact fun hd => drawChk_notin hh.rest p hp (List.mem_cons_of_mem _ hd)

theorem drawAll_ok {C : Ctx} {nt : Nat} {ops : Array Oper} {A : List (List Nat)} {l : List (Nat × List Nat)} (h : drawAll C nt ops A l = true) : DrawOk C nt ops A ∧ drawChk C ops A [] l = true ∧ ∀ i, i < ops.size → ∃ p ∈ l, p.1 = i := by
  simp only [drawAll, Bool.and_eq_true] at h
  obtain ⟨⟨⟨⟨⟨h1, h2⟩, h3⟩, h4⟩, h5⟩, h6⟩ := h
  have rng : ∀ {f : Nat → Bool}, (List.range ops.size).all f = true → ∀ i, i < ops.size → f i = true := fun hf i hi => List.all_eq_true.1 hf i (by simpa using hi)
  refine ⟨⟨fun i p hi hp => ?_, fun i j d hi hj hdi hdj => ?_, fun i d hi hd => ?_, fun i j d hi hj hd hl => ?_⟩, h1, fun i hi => ?_⟩
  · have := List.all_eq_true.1 (rng h3 i hi) p (by simpa [ancOf] using hp)
    rcases Bool.or_eq_true _ _ ▸ this with h | h
    · exact .inl (by simpa using h)
    · obtain ⟨q, hq, he⟩ := List.any_eq_true.1 h
      exact .inr ⟨q, hq, he⟩
  · have := rng (rng h4 i hi) j hj
    rw [hdi, hdj] at this
    simpa using this
  · have := rng h5 i hi
    rw [hd] at this
    simpa using this
  · have := rng (rng h6 i hi) j hj
    rw [hd] at this
    dsimp only at this
    rcases Bool.or_eq_true _ _ ▸ this with h | h
    · simp [hl] at h
    · simpa using h
  · obtain ⟨p, hp, he⟩ := List.any_eq_true.1 (rng h2 i hi)
    exact ⟨p, hp, by simpa using he⟩

theorem pick_get {ops : Array Oper} {i : Nat} (h : i < ops.size) : ops[i]? = some (pickO ops.toList i) := by
  unfold pickO
  rw [Array.getElem?_toList, Array.getElem?_eq_getElem h]
  rfl

variable {P : Program} {C : Ctx}

/-- Where a drawn region stands: some operations were carried out by the evaluator, some of these by the machine, too. -/
structure Drw (P : Program) (C : Ctx) (nt : Nat) (ops : Array Oper) (A : List (List Nat)) (rt : Rt) (k : List D → Env → Heap → Bool) (ρ₀ : Ren) (h₀ : Heap) (w₀ : World) (e₀ : Env)
    (listed : Array Bool) (done : List Nat) (rest : List (Nat × List Nat)) (es : Nat → Env) (nm : Nat → Option Nat) (ds : List D) (e : Env) (h : Heap) (ρ : Ren) (a : Act) (w : World) : Prop where
  run : (drawnK C nt ops.toList (itemsOf ops.toList rest)).run rt ds e h k = true
  chk : drawChk C ops A done rest = true
  lst : listed.size = ops.size
  dlt : ∀ i ∈ done, i < ops.size
  all : ∀ i, i < ops.size → i ∈ done ∨ ∃ p ∈ rest, p.1 = i
  unr : ∀ p ∈ rest, listed.getD p.1 false = false
  eag : ∀ i ∈ done, listed.getD i false = true ∨ clsOf C ops.toList i ≠ 3
  clo : ∀ i, i < ops.size → listed.getD i false = true → ∀ p, ancOf A p i = true → listed.getD p false = true
  dcl : ∀ i ∈ done, ∀ p, ancOf A p i = true → p ∈ done
  env : ∀ t, (∃ i ∈ done, listed.getD i false = false ∧ dstOf ops.toList i = some t) → RelV ρ ((eg t).get e₀) (a.tmps.getD t undef)
  env' : ∀ t, (∀ i ∈ done, dstOf ops.toList i = some t → listed.getD i false = true) → RelV ρ ((eg t).get e) (a.tmps.getD t undef)
  une : ∀ t, (∀ i ∈ done, dstOf ops.toList i ≠ some t) → (eg t).get e = (eg t).get e₀
  siz : a.tmps.size = nt
  dfr : All2 (DRel ρ) ds a.defers
  hep : HeapRel P C ρ h w
  le : Le ρ₀ h₀ w₀ ρ h w
  look : ∀ i ∈ done, listed.getD i false = false → ∀ t ∈ (pickO ops.toList i).looksAt ops,
    (∀ m, m < ops.size → dstOf ops.toList m = some t → ancOf A m i = true → (eg t).get (es i) = (eg t).get e) ∧ ((∀ m, m < ops.size → dstOf ops.toList m = some t → ancOf A m i = false) → (eg t).get (es i) = (eg t).get e₀)
  pend : ∀ i ∈ done, listed.getD i false = false → ∃ V, (∀ d, dstOf ops.toList i = some d → (eg d).get e = V) ∧
    ((clsOf C ops.toList i ≤ 1 ∧ Told C ops.toList rt (pickO ops.toList i) (cut ((pickO ops.toList i).looksAt ops) (es i)) h V) ∨
     (wantsE ops.toList (pickO ops.toList i) (cut ((pickO ops.toList i).looksAt ops) (es i)) = some false ∧ V = tup0) ∨
     ∃ q, nm i = some q ∧ wantsE ops.toList (pickO ops.toList i) (cut ((pickO ops.toList i).looksAt ops) (es i)) = some true ∧ Born P (pickO ops.toList i) (cut ((pickO ops.toList i).looksAt ops) (es i)) q V (hget q h))
  nam : ∀ i q, nm i = some q → i ∈ done ∧ listed.getD i false = false ∧ ρ q = none ∧ q < h.nx ∧ h₀.nx ≤ q
  inj : ∀ i j q, nm i = some q → nm j = some q → i = j

variable {nt : Nat} {ops : Array Oper} {A : List (List Nat)} {rt : Rt} {k : List D → Env → Heap → Bool} {ρ₀ : Ren} {h₀ : Heap} {w₀ : World} {e₀ : Env}

theorem tells_told {ds : List D} {e : Env} {h : Heap} {rest : RegK} : ∀ {l : List Nat}, (∀ j ∈ l, clsOf C ops.toList j ≤ 1) → (tellsK C nt ops.toList (l.map (pickO ops.toList)) rest).run rt ds e h k = true →
    rest.run rt ds e h k = true ∧ ∀ j ∈ l, ∃ V, Told C ops.toList rt (pickO ops.toList j) e h V ∧ (wantsE ops.toList (pickO ops.toList j) e = some true → ∀ d, dstOf ops.toList j = some d → (eg d).get e = V)
  | [], _, hx => ⟨hx, fun j hj => by cases hj⟩
  | j :: l, hl, hx => by
    obtain ⟨h1, h2⟩ := tell_told (nt := nt) (hl j (by simp)) hx
    obtain ⟨h3, h4⟩ := tells_told (fun i hi => hl i (by simp [hi])) h1
    refine ⟨h3, fun i hi => ?_⟩
    cases hi with
    | head => exact h2
    | tail _ hi => exact h4 i hi

/-- What hangs on no heap. -/
theorem told_heap {o : Oper} {e : Env} {h h' : Heap} {V : V} (hc : opCls C o.op = 0) (ht : Told C ops.toList rt o e h V) : Told C ops.toList rt o e h' V := by
  rcases ht with ⟨h1, h2⟩ | ht
  · refine .inl ⟨h1, fun k => ?_⟩
    obtain ⟨g, hg, hrun⟩ := pureL_op hc e
    rw [hrun]
    have := h2 (fun v _ => k v h')
    rw [hrun] at this
    exact this
  · exact .inr ht

/-- What is told behind a step that changes the heap. -/
theorem Drw.retell {listed : Array Bool} {done : List Nat} {i : Nat} {ck : List Nat} {r : List (Nat × List Nat)} {es : Nat → Env} {nm : Nat → Option Nat} {ds : List D} {e e' : Env} {h h' : Heap} {ρ : Ren} {a : Act} {w : World} {V : V}
    (S : DrawOk C nt ops A) (D : Drw P C nt ops A rt k ρ₀ h₀ w₀ e₀ listed done ((i, ck) :: r) es nm ds e h ρ a w) (he : ∀ t, (eg t).get e' = if dstOf ops.toList i = some t then V else (eg t).get e)
    (ht : ∀ j ∈ ck, ∃ V, Told C ops.toList rt (pickO ops.toList j) e' h' V ∧ (wantsE ops.toList (pickO ops.toList j) e' = some true → ∀ d, dstOf ops.toList j = some d → (eg d).get e' = V))
    {j : Nat} (hj : j ∈ done) (hu : listed.getD j false = false) (hck : clsOf C ops.toList j = 1 → j ∈ ck) (hq : ∀ q, nm j = some q → hget q h' = hget q h) :
    ∃ V, (∀ d, dstOf ops.toList j = some d → (eg d).get e' = V) ∧
    ((clsOf C ops.toList j ≤ 1 ∧ Told C ops.toList rt (pickO ops.toList j) (cut ((pickO ops.toList j).looksAt ops) (es j)) h' V) ∨
     (wantsE ops.toList (pickO ops.toList j) (cut ((pickO ops.toList j).looksAt ops) (es j)) = some false ∧ V = tup0) ∨
     ∃ q, nm j = some q ∧ wantsE ops.toList (pickO ops.toList j) (cut ((pickO ops.toList j).looksAt ops) (es j)) = some true ∧ Born P (pickO ops.toList j) (cut ((pickO ops.toList j).looksAt ops) (es j)) q V (hget q h')) := by
  have H := drawChk_head D.chk
  have hji : j ≠ i := fun h => H.new (h ▸ hj)
  have hdst : ∀ d, dstOf ops.toList j = some d → (eg d).get e' = (eg d).get e := fun d hd => by
    rw [he, if_neg]
    exact fun hi => hji (S.dst j i d (D.dlt j hj) H.lt hd hi)
  obtain ⟨V', h1, h2⟩ := D.pend j hj hu
  have hV : ∀ d, dstOf ops.toList j = some d → (eg d).get e' = V' := fun d hd => (hdst d hd).trans (h1 d hd)
  rcases h2 with ⟨hc, h2⟩ | h2 | ⟨q, h3, h4, h5⟩
  · by_cases hc0 : clsOf C ops.toList j = 0
    · exact ⟨V', hV, .inl ⟨hc, told_heap hc0 h2⟩⟩
    · have hjc := hck (by omega)
      obtain ⟨V2, t1, t2⟩ := ht j hjc
      have agree : ∀ t ∈ (pickO ops.toList j).looksAt ops, (eg t).get e' = (eg t).get (es j) := by
        intro t htl
        obtain ⟨l1, l2⟩ := D.look j hj hu t htl
        by_cases hm : ∃ m, m < ops.size ∧ dstOf ops.toList m = some t ∧ ancOf A m j = true
        · obtain ⟨m, m1, m2, m3⟩ := hm
          rw [l1 m m1 m2 m3, he, if_neg]
          intro hi
          have := S.dst m i t m1 H.lt m2 hi
          subst this
          exact H.new (D.dcl j hj m m3)
        · have hno : ∀ m, m < ops.size → dstOf ops.toList m = some t → ancOf A m j = false := fun m m1 m2 => by
            cases hb : ancOf A m j with
            | false => rfl
            | true => exact absurd ⟨m, m1, m2, hb⟩ hm
          have hrest : ∀ m, m < ops.size → dstOf ops.toList m = some t → ∃ p ∈ r, p.1 = m := fun m m1 m2 => by
            rcases (H.told j hjc).2 t htl m m1 m2 with h | h
            · rw [hno m m1 m2] at h; cases h
            · exact h
          rw [l2 hno, he, if_neg]
          · exact D.une t fun m hm' hd => by
              obtain ⟨p, hp, rfl⟩ := hrest m (D.dlt m hm') hd
              exact drawChk_notin H.rest p hp (List.mem_cons_of_mem _ hm')
          · intro hi
            obtain ⟨p, hp, hpi⟩ := hrest i H.lt hi
            exact drawChk_notin H.rest p hp (by rw [hpi]; simp)
      have t3 := told_cut t1
      rw [cut_congr agree] at t3
      have wag : wantsE ops.toList (pickO ops.toList j) e' = wantsE ops.toList (pickO ops.toList j) (cut ((pickO ops.toList j).looksAt ops) (es j)) := by
        rw [← cut_congr agree, wants_cut]
      rcases h2 with ⟨h6, h7⟩ | ⟨h6, h7⟩
      · refine ⟨V2, fun d hd => t2 (wag.trans h6) d hd, .inl ⟨hc, t3⟩⟩
      · exact ⟨V', hV, .inl ⟨hc, .inr ⟨h6, h7⟩⟩⟩
  · exact ⟨V', hV, .inr (.inl h2)⟩
  · exact ⟨V', hV, .inr (.inr ⟨q, h3, h4, by rw [hq q h3]; exact h5⟩)⟩
end
end Go.Ev
end

section
/- A drawn region, whatever its order. -/
namespace Go.Ev
open Go
set_option linter.unusedVariables false
set_option linter.unusedSimpArgs false
section
variable {P : Program} {C : Ctx} {nt : Nat} {ops : Array Oper} {A : List (List Nat)} {rt : Rt} {k : List D → Env → Heap → Bool} {ρ₀ : Ren} {h₀ : Heap} {w₀ : World} {e₀ : Env}

theorem set_self {listed : Array Bool} {i : Nat} {d : Bool} (h : i < listed.size) : (listed.setIfInBounds i true).getD i d = true := by
  rw [Array.getD_eq_getD_getElem?, Array.getElem?_setIfInBounds_self_of_lt h]; rfl
theorem set_ne {listed : Array Bool} {i j : Nat} {d : Bool} (h : j ≠ i) : (listed.setIfInBounds i true).getD j d = listed.getD j d := by
  rw [Array.getD_eq_getD_getElem?, Array.getElem?_setIfInBounds_ne (fun h' => h h'.symm), ← Array.getD_eq_getD_getElem?]

/-- (1) The evaluator carries out an operation ahead of the machine. -/
theorem Drw.ahead {listed : Array Bool} {done : List Nat} {i : Nat} {ck : List Nat} {r : List (Nat × List Nat)} {es : Nat → Env} {nm : Nat → Option Nat} {ds : List D} {e : Env} {h : Heap} {ρ : Ren} {a : Act} {w : World}
    (hC : CtxOk P C) (S : DrawOk C nt ops A) (D : Drw P C nt ops A rt k ρ₀ h₀ w₀ e₀ listed done ((i, ck) :: r) es nm ds e h ρ a w) (hc : clsOf C ops.toList i < 3) :
    ∃ es' nm' e' h', Drw P C nt ops A rt k ρ₀ h₀ w₀ e₀ listed (i :: done) r es' nm' ds e' h' ρ a w := by
  have H := drawChk_head D.chk
  have hun : listed.getD i false = false := D.unr (i, ck) (by simp)
  have hx : (operK C nt ops.toList (pickO ops.toList i) (tellsK C nt ops.toList (ck.map (pickO ops.toList)) (drawnK C nt ops.toList (itemsOf ops.toList r)))).run rt ds e h k = true := D.run
  classical
  -- what does not hang on the kind of operation
  have mk : ∀ (V : V) (e' : Env) (h' : Heap) (nm' : Nat → Option Nat), (∀ t, (eg t).get e' = if dstOf ops.toList i = some t then V else (eg t).get e) →
      (drawnK C nt ops.toList (itemsOf ops.toList r)).run rt ds e' h' k = true → HeapRel P C ρ h' w → Le ρ₀ h₀ w₀ ρ h' w →
      ((clsOf C ops.toList i ≤ 1 ∧ Told C ops.toList rt (pickO ops.toList i) (cut ((pickO ops.toList i).looksAt ops) e) h' V) ∨
       (wantsE ops.toList (pickO ops.toList i) (cut ((pickO ops.toList i).looksAt ops) e) = some false ∧ V = tup0) ∨
       ∃ q, nm' i = some q ∧ wantsE ops.toList (pickO ops.toList i) (cut ((pickO ops.toList i).looksAt ops) e) = some true ∧ Born P (pickO ops.toList i) (cut ((pickO ops.toList i).looksAt ops) e) q V (hget q h')) →
      (∀ j ∈ done, listed.getD j false = false → ∃ V, (∀ d, dstOf ops.toList j = some d → (eg d).get e' = V) ∧
        ((clsOf C ops.toList j ≤ 1 ∧ Told C ops.toList rt (pickO ops.toList j) (cut ((pickO ops.toList j).looksAt ops) (es j)) h' V) ∨
         (wantsE ops.toList (pickO ops.toList j) (cut ((pickO ops.toList j).looksAt ops) (es j)) = some false ∧ V = tup0) ∨
         ∃ q, nm j = some q ∧ wantsE ops.toList (pickO ops.toList j) (cut ((pickO ops.toList j).looksAt ops) (es j)) = some true ∧ Born P (pickO ops.toList j) (cut ((pickO ops.toList j).looksAt ops) (es j)) q V (hget q h'))) →
      (∀ j q, j ≠ i → nm j = some q → nm' j = some q) → (∀ j q, nm' j = some q → j ∈ (i :: done) ∧ listed.getD j false = false ∧ ρ q = none ∧ q < h'.nx ∧ h₀.nx ≤ q) → (∀ i j q, nm' i = some q → nm' j = some q → i = j) →
      Drw P C nt ops A rt k ρ₀ h₀ w₀ e₀ listed (i :: done) r (fun j => if j = i then e else es j) nm' ds e' h' ρ a w := by
    intro V e' h' nm' he hrun hH hL hpi hpj hnm hnam hinj
    have notd : ∀ j ∈ done, j ≠ i := fun j hj hji => H.new (hji ▸ hj)
    refine ⟨hrun, H.rest, D.lst, fun j hj => ?_, fun j hj => ?_, fun p hp => D.unr p (by simp [hp]), fun j hj => ?_, D.clo, fun j hj p hp => ?_, fun t ht => ?_, fun t ht => ?_, fun t ht => ?_, D.siz, D.dfr, hH, hL, fun j hj hu t htl => ?_, fun j hj hu => ?_, hnam, hinj⟩
    · cases hj with
      | head => exact H.lt
      | tail _ hj => exact D.dlt j hj
    · rcases D.all j hj with h | ⟨p, hp, rfl⟩
      · exact .inl (List.mem_cons_of_mem _ h)
      · cases hp with
        | head => exact .inl (by simp)
        | tail _ hp => exact .inr ⟨p, hp, rfl⟩
    · cases hj with
      | head => exact .inr (by omega)
      | tail _ hj => exact D.eag j hj
    · cases hj with
      | head =>
        rcases S.closed i p H.lt hp with h | ⟨q, hq, h⟩
        · exact List.mem_cons_of_mem _ (H.preds p h)
        · exact List.mem_cons_of_mem _ (D.dcl q (H.preds q hq) p h)
      | tail _ hj => exact List.mem_cons_of_mem _ (D.dcl j hj p hp)
    · obtain ⟨j, hj, hu, hd⟩ := ht
      cases hj with
      | head =>
        have hno : ∀ m ∈ done, dstOf ops.toList m ≠ some t := fun m hm hmd => notd m hm (S.dst m i t (D.dlt m hm) H.lt hmd hd)
        rw [← D.une t hno]
        exact D.env' t fun m hm hmd => absurd hmd (hno m hm)
      | tail _ hj => exact D.env t ⟨j, hj, hu, hd⟩
    · have hne : dstOf ops.toList i ≠ some t := fun hd => by
        have := ht i (by simp) hd
        rw [hun] at this; cases this
      rw [he, if_neg hne]
      exact D.env' t fun m hm hmd => ht m (List.mem_cons_of_mem _ hm) hmd
    · rw [he, if_neg (ht i (by simp))]
      exact D.une t fun m hm => ht m (List.mem_cons_of_mem _ hm)
    · cases hj with
      | head =>
        rw [if_pos rfl]
        refine ⟨fun m m1 m2 m3 => ?_, fun hno => ?_⟩
        · rw [he, if_neg]
          exact fun hd => (S.look i i t H.lt H.lt hd htl).1 rfl
        · refine D.une t fun m hm hmd => ?_
          rcases (S.look i m t H.lt (D.dlt m hm) hmd htl).2 with h | h
          · rw [hno m (D.dlt m hm) hmd] at h; cases h
          · exact H.new (D.dcl m hm i h)
      | tail _ hj =>
        rw [if_neg (notd j hj)]
        obtain ⟨l1, l2⟩ := D.look j hj hu t htl
        refine ⟨fun m m1 m2 m3 => ?_, l2⟩
        rw [l1 m m1 m2 m3, he, if_neg]
        intro hd
        have := S.dst m i t m1 H.lt m2 hd
        subst this
        exact H.new (D.dcl j hj m m3)
    · cases hj with
      | head =>
        rw [if_pos rfl]
        exact ⟨V, fun d hd => by rw [he, if_pos hd], hpi⟩
      | tail _ hj =>
        rw [if_neg (notd j hj)]
        obtain ⟨V', h1, h2⟩ := hpj j hj hu
        refine ⟨V', h1, ?_⟩
        rcases h2 with h2 | h2 | ⟨q, h3, h4⟩
        · exact .inl h2
        · exact .inr (.inl h2)
        · exact .inr (.inr ⟨q, hnm j q (notd j hj) h3, h4⟩)
  have hnami : ∀ q, nm i ≠ some q := fun q hq => H.new (D.nam i q hq).1
  have samepend : ∀ (V : V) (e' : Env), (∀ t, (eg t).get e' = if dstOf ops.toList i = some t then V else (eg t).get e) → ∀ j ∈ done, listed.getD j false = false → ∃ V, (∀ d, dstOf ops.toList j = some d → (eg d).get e' = V) ∧
        ((clsOf C ops.toList j ≤ 1 ∧ Told C ops.toList rt (pickO ops.toList j) (cut ((pickO ops.toList j).looksAt ops) (es j)) h V) ∨
         (wantsE ops.toList (pickO ops.toList j) (cut ((pickO ops.toList j).looksAt ops) (es j)) = some false ∧ V = tup0) ∨
         ∃ q, nm j = some q ∧ wantsE ops.toList (pickO ops.toList j) (cut ((pickO ops.toList j).looksAt ops) (es j)) = some true ∧ Born P (pickO ops.toList j) (cut ((pickO ops.toList j).looksAt ops) (es j)) q V (hget q h)) := by
    intro V e' he j hj hu
    obtain ⟨V', h1, h2⟩ := D.pend j hj hu
    refine ⟨V', fun d hd => ?_, h2⟩
    rw [he, if_neg]
    · exact h1 d hd
    · exact fun hi => H.new ((S.dst j i d (D.dlt j hj) H.lt hd hi) ▸ hj)
  by_cases hc1 : clsOf C ops.toList i ≤ 1
  · obtain ⟨V, e', ht, hr, he⟩ := exec_told hc1 H.plain hx
    obtain ⟨hr, _⟩ := tells_told (fun j hj => (H.told j hj).1) hr
    exact ⟨_, nm, e', h, mk V e' h nm he hr D.hep D.le (.inl ⟨hc1, told_cut ht⟩) (samepend V e' he) (fun j q _ h => h) (fun j q hq => let ⟨a, b⟩ := D.nam j q hq; ⟨List.mem_cons_of_mem _ a, b⟩) D.inj⟩
  · have hc2 : clsOf C ops.toList i = 2 := by omega
    rcases exec_born (born_op hC hc2) H.plain hx with ⟨hw, V, O, h', e', hn, hg, hb, hr, he⟩ | ⟨hw, e', hr, he⟩
    · obtain ⟨hr, htold⟩ := tells_told (fun j hj => (H.told j hj).1) hr
      have hfree : ρ h.nx = none := by
        cases hρ : ρ h.nx with
        | none => rfl
        | some B => have := (D.hep.dom _ B hρ).1; omega
      have hold : ∀ j q, nm j = some q → hget q h' = hget q h := fun j q hq => by
        rw [hg, if_neg (by have := (D.nam j q hq).2.2.2.1; omega)]
      refine ⟨_, fun j => if j = i then some h.nx else nm j, e', h', mk V e' h' _ he hr (D.hep.ahead hn hg) (D.le.ahead D.hep hn hg) (.inr (.inr ⟨h.nx, by simp, by rw [wants_cut]; exact hw, ?_⟩)) (fun j hj hu => ?_) (fun j q hji hq => ?_) (fun j q hq => ?_) (fun j m q hj hm => ?_)⟩
      · rw [hg, if_pos rfl]; exact hb
      · refine D.retell S he htold hj hu (fun h1 => ?_) (hold j)
        rcases H.tells (by omega) j hj h1 with h | h
        · omega
        · exact h
      · rw [if_neg hji]; exact hq
      · by_cases hji : j = i
        · rw [if_pos hji] at hq; cases hq
          subst hji
          exact ⟨by simp, hun, hfree, by omega, D.le.nx⟩
        · rw [if_neg hji] at hq
          obtain ⟨a1, a2, a3, a4, a5⟩ := D.nam j q hq
          exact ⟨List.mem_cons_of_mem _ a1, a2, a3, by omega, a5⟩
      · by_cases hji : j = i <;> by_cases hmi : m = i
        · rw [hji, hmi]
        · rw [if_pos hji] at hj; rw [if_neg hmi] at hm; cases hj
          have := (D.nam m _ hm).2.2.2.1; omega
        · rw [if_neg hji] at hj; rw [if_pos hmi] at hm; cases hm
          have := (D.nam j _ hj).2.2.2.1; omega
        · rw [if_neg hji] at hj; rw [if_neg hmi] at hm
          exact D.inj j m q hj hm
    · obtain ⟨hr, _⟩ := tells_told (fun j hj => (H.told j hj).1) hr
      exact ⟨_, nm, e', h, mk tup0 e' h nm he hr D.hep D.le (.inr (.inl ⟨by rw [wants_cut]; exact hw, rfl⟩)) (samepend tup0 e' he) (fun j q _ h => h) (fun j q hq => let ⟨a, b⟩ := D.nam j q hq; ⟨List.mem_cons_of_mem _ a, b⟩) D.inj⟩

/-- (2) So far as it can. -/
theorem Drw.settle (hC : CtxOk P C) (S : DrawOk C nt ops A) {listed : Array Bool} {ds : List D} {ρ : Ren} {a : Act} {w : World} : ∀ {rest : List (Nat × List Nat)} {done : List Nat} {es : Nat → Env} {nm : Nat → Option Nat} {e : Env} {h : Heap},
    Drw P C nt ops A rt k ρ₀ h₀ w₀ e₀ listed done rest es nm ds e h ρ a w → ∃ done' rest' es' nm' e' h', Drw P C nt ops A rt k ρ₀ h₀ w₀ e₀ listed done' rest' es' nm' ds e' h' ρ a w ∧ ∀ p ∈ rest'.head?, 3 ≤ clsOf C ops.toList p.1
  | [], done, es, nm, e, h, D => ⟨done, [], es, nm, e, h, D, by simp⟩
  | (i, ck) :: r, done, es, nm, e, h, D => by
    by_cases hc : clsOf C ops.toList i < 3
    · obtain ⟨es', nm', e', h', D'⟩ := D.ahead hC S hc
      exact D'.settle hC S
    · exact ⟨done, _, es, nm, e, h, D, fun p hp => by simp at hp; subst hp; exact Nat.le_of_not_lt hc⟩
end
end Go.Ev
end

section
/- A drawn region, whatever its order: the machine's steps. -/
namespace Go.Ev
open Go
set_option linter.unusedVariables false
set_option linter.unusedSimpArgs false
section
variable {P : Program} {C : Ctx} {nt : Nat} {ops : Array Oper} {A : List (List Nat)} {rt : Rt} {k : List D → Env → Heap → Bool} {ρ₀ : Ren} {h₀ : Heap} {w₀ : World} {e₀ : Env}

theorem taken_lt {listed : Array Bool} {i : Nat} (h : listed.getD i false = true) : i < listed.size := by
  rcases Nat.lt_or_ge i listed.size with h' | h'
  · exact h'
  · rw [Array.getD_eq_getD_getElem?, Array.getElem?_eq_none h'] at h; cases h
theorem taken_set {listed : Array Bool} {i j : Nat} (h : listed.getD j false = true) : (listed.setIfInBounds i true).getD j false = true := by
  by_cases hji : j = i
  · subst hji; exact set_self (taken_lt h)
  · rw [set_ne hji]; exact h
theorem untaken_set {listed : Array Bool} {i j : Nat} (hi : i < listed.size) (h : (listed.setIfInBounds i true).getD j false = false) : j ≠ i ∧ listed.getD j false = false := by
  have hji : j ≠ i := fun hji => by
    subst hji
    rw [set_self hi] at h; cases h
  rw [set_ne hji] at h
  exact ⟨hji, h⟩
theorem put_get {a : Act} {dst : Option Nat} {v : Value} {t : Nat} : (a.put dst v).tmps.getD t undef = if dst = some t ∧ t < a.tmps.size then v else a.tmps.getD t undef := by
  cases dst with
  | none => simp [Act.put]
  | some d =>
    show (a.tmps.setIfInBounds d v).getD t undef = _
    by_cases ht : d = t
    · subst ht
      by_cases hs : d < a.tmps.size
      · rw [if_pos ⟨rfl, hs⟩, Array.getD_eq_getD_getElem?, Array.getElem?_setIfInBounds_self_of_lt hs]; rfl
      · rw [if_neg (fun h => hs h.2), Array.setIfInBounds_eq_of_size_le (by omega)]
    · rw [if_neg (fun h => ht (Option.some.inj h.1)), Array.getD_eq_getD_getElem?, Array.getElem?_setIfInBounds_ne ht, ← Array.getD_eq_getD_getElem?]

theorem Drw.anc {listed : Array Bool} {done : List Nat} {rest : List (Nat × List Nat)} {es : Nat → Env} {nm : Nat → Option Nat} {ds : List D} {e : Env} {h : Heap} {ρ : Ren} {a : Act} {w : World}
    (S : DrawOk C nt ops A) (D : Drw P C nt ops A rt k ρ₀ h₀ w₀ e₀ listed done rest es nm ds e h ρ a w) {i : Nat} (hi : i < ops.size) (hr : ∀ p ∈ predsOf (pickO ops.toList i), listed.getD p false = true) : ∀ p, ancOf A p i = true → listed.getD p false = true := by
  intro p hp
  rcases S.closed i p hi hp with h | ⟨q, hq, h⟩
  · exact hr p h
  · have hq := hr q hq
    exact D.clo q (by rw [← D.lst]; exact taken_lt hq) hq p h

/-- (3) The machine takes what was told or made ahead. -/
theorem Drw.take {T : Rt → Prop} {listed : Array Bool} {done : List Nat} {rest : List (Nat × List Nat)} {es : Nat → Env} {nm : Nat → Option Nat} {ds : List D} {e : Env} {h : Heap} {ρ : Ren} {a : Act} {w : World}
    (hop : ∀ o : Oper, (∀ c, o.op ≠ .defer c) → OpOk T P C (opK C o.op) o) (hT : T rt) (S : DrawOk C nt ops A) (D : Drw P C nt ops A rt k ρ₀ h₀ w₀ e₀ listed done rest es nm ds e h ρ a w) {i : Nat} (hi : i ∈ done) (hu : listed.getD i false = false)
    (hr : ∀ p ∈ predsOf (pickO ops.toList i), listed.getD p false = true) {r : Option Nat} {K : Act → World → Prop} {Q : Exit → Act → World → Prop}
    (hK : ∀ ρ' nm' a' w', Drw P C nt ops A rt k ρ₀ h₀ w₀ e₀ (listed.setIfInBounds i true) done rest es nm' ds e h ρ' a' w' → K a' w') : wpOpIn (fen r) 0 P ops Q i K a w := by
  have hlt := D.dlt i hi
  have hls : i < listed.size := by rw [D.lst]; exact hlt
  have hanc := D.anc S hlt hr
  have ho := pick_get hlt
  have hplain : ∀ c, (pickO ops.toList i).op ≠ .defer c := fun c hc => by
    rcases D.eag i hi with h | h
    · rw [hu] at h; cases h
    · exact h (by simp [clsOf, opCls, hc])
  have hE : EnvRel ρ (cut ((pickO ops.toList i).looksAt ops) (es i)) a.tmps := by
    refine cut_rel fun t htl => ?_
    obtain ⟨l1, l2⟩ := D.look i hi hu t htl
    by_cases hm : ∃ m, m < ops.size ∧ dstOf ops.toList m = some t ∧ ancOf A m i = true
    · obtain ⟨m, m1, m2, m3⟩ := hm
      rw [l1 m m1 m2 m3]
      refine D.env' t fun j hj hd => ?_
      rw [S.dst j m t (D.dlt j hj) m1 hd m2]
      exact hanc m m3
    · have hno : ∀ m, m < ops.size → dstOf ops.toList m = some t → ancOf A m i = false := fun m m1 m2 => by
        cases hb : ancOf A m i with
        | false => rfl
        | true => exact absurd ⟨m, m1, m2, hb⟩ hm
      rw [l2 hno]
      by_cases hv : ∃ j ∈ done, listed.getD j false = false ∧ dstOf ops.toList j = some t
      · exact D.env t hv
      · have hnod : ∀ j ∈ done, dstOf ops.toList j ≠ some t := fun j hj hd => by
          have hjt : listed.getD j false = true := by
            cases hb : listed.getD j false with
            | true => rfl
            | false => exact absurd ⟨j, hj, hb, hd⟩ hv
          rcases (S.look i j t hlt (D.dlt j hj) hd htl).2 with h | h
          · rw [hno j (D.dlt j hj) hd] at h; cases h
          · rw [D.clo j (D.dlt j hj) hjt i h] at hu; cases hu
        rw [← D.une t hnod]
        exact D.env' t fun j hj hd => absurd hd (hnod j hj)
  have mk : ∀ (v : Value) (ρ' : Ren) (w' : World), (∀ d, dstOf ops.toList i = some d → RelV ρ' ((eg d).get e) v) → HeapRel P C ρ' h w' → Le ρ₀ h₀ w₀ ρ' h w' → (∀ i B, ρ i = some B → ρ' i = some B) →
      (∀ j q, j ≠ i → nm j = some q → ρ' q = none) → Drw P C nt ops A rt k ρ₀ h₀ w₀ e₀ (listed.setIfInBounds i true) done rest es (fun j => if j = i then none else nm j) ds e h ρ' (a.put (dstOf ops.toList i) v) w' := by
    intro v ρ' w' hv hH hL hren hnm
    have keep : ∀ t, dstOf ops.toList i ≠ some t → (a.put (dstOf ops.toList i) v).tmps.getD t undef = a.tmps.getD t undef := fun t ht => by rw [put_get, if_neg (fun h => ht h.1)]
    refine ⟨D.run, D.chk, by simp [D.lst], D.dlt, D.all, fun p hp => ?_, fun j hj => ?_, fun j hj ht p hp => ?_, D.dcl, fun t ht => ?_, fun t ht => ?_, D.une, ?_, ?_, hH, hL, fun j hj hju => ?_, fun j hj hju => ?_, fun j q hq => ?_, fun j m q hj hm => ?_⟩
    · rw [set_ne (fun hpi => drawChk_notin D.chk p hp (by rw [hpi]; exact hi))]
      exact D.unr p hp
    · rcases D.eag j hj with h | h
      · exact .inl (taken_set h)
      · exact .inr h
    · by_cases hji : j = i
      · subst hji; exact taken_set (hanc p hp)
      · rw [set_ne hji] at ht
        exact taken_set (D.clo j hj ht p hp)
    · obtain ⟨j, hj, hju, hd⟩ := ht
      obtain ⟨hji, hju⟩ := untaken_set hls hju
      rw [keep t (fun hdi => hji (S.dst j i t (D.dlt j hj) hlt hd hdi))]
      exact (D.env t ⟨j, hj, hju, hd⟩).mono hren
    · by_cases hdi : dstOf ops.toList i = some t
      · rw [put_get, if_pos ⟨hdi, by rw [D.siz]; exact S.dlt i t hlt hdi⟩]
        exact hv t hdi
      · rw [keep t hdi]
        refine (D.env' t fun j hj hd => ?_).mono hren
        have := ht j hj hd
        rwa [set_ne (fun hji => hdi (by rw [← hji]; exact hd))] at this
    · have : ∀ dst : Option Nat, (a.put dst v).tmps.size = a.tmps.size := fun dst => by cases dst <;> simp [Act.put]
      rw [this, D.siz]
    · have : ∀ dst : Option Nat, (a.put dst v).defers = a.defers := fun dst => by cases dst <;> rfl
      rw [this]
      exact D.dfr.mono fun _ _ => DRel.mono hren
    · exact D.look j hj (untaken_set hls hju).2
    · obtain ⟨hji, hju⟩ := untaken_set hls hju
      obtain ⟨V, h1, h2⟩ := D.pend j hj hju
      refine ⟨V, h1, ?_⟩
      rcases h2 with h2 | h2 | ⟨q, h3, h4⟩
      · exact .inl h2
      · exact .inr (.inl h2)
      · exact .inr (.inr ⟨q, by rw [if_neg hji]; exact h3, h4⟩)
    · by_cases hji : j = i
      · rw [if_pos hji] at hq; cases hq
      · rw [if_neg hji] at hq
        obtain ⟨a1, a2, a3, a4, a5⟩ := D.nam j q hq
        exact ⟨a1, by rw [set_ne hji]; exact a2, hnm j q hji hq, a4, a5⟩
    · by_cases hji : j = i
      · rw [if_pos hji] at hj; cases hj
      · by_cases hmi : m = i
        · rw [if_pos hmi] at hm; cases hm
        · rw [if_neg hji] at hj; rw [if_neg hmi] at hm
          exact D.inj j m q hj hm
  have told : ∀ V, (∀ d, dstOf ops.toList i = some d → (eg d).get e = V) → Told C ops.toList rt (pickO ops.toList i) (cut ((pickO ops.toList i).looksAt ops) (es i)) h V → wpOpIn (fen r) 0 P ops Q i K a w := by
    intro V hV ht
    refine take_told (hop _ hplain) hT ht ho hE D.hep fun v w' ρ' hv hH hL => ?_
    exact hK _ _ _ _ (mk v ρ' w' (fun d hd => by rw [hV d hd]; exact hv) hH (D.le.trans hL) hL.ren fun j q hji hq => let ⟨_, _, a3, a4, _⟩ := D.nam j q hq; (hL.fresh q a4 a3).2)
  obtain ⟨V, hV, h2⟩ := D.pend i hi hu
  rcases h2 with ⟨_, h2⟩ | ⟨h2, h3⟩ | ⟨q, h3, h4, h5⟩
  · exact told V hV h2
  · exact told V hV (.inr ⟨h2, h3⟩)
  · obtain ⟨_, _, a3, a4, a5⟩ := D.nam i q h3
    refine take_born hplain h4 h5 ho hE D.hep a3 a4 fun v w' ob B hw hb hv hH => ?_
    refine hK _ _ _ _ (mk v _ w' (fun d hd => by rw [hV d hd]; exact hv) hH (D.le.born a3 a5 hw.1 hb hw.2) (fun j E hj => ?_) fun j p hji hp => ?_)
    · show (if j = q then some B else ρ j) = some E
      rw [if_neg (fun h => by rw [h, a3] at hj; cases hj)]; exact hj
    · show (if p = q then some B else ρ p) = none
      rw [if_neg (fun h => hji (D.inj j i q (by rw [← h]; exact hp) h3))]
      exact (D.nam j p hp).2.2.1

/-- (4) Both carry out the next one of those that come in their order. -/
theorem Drw.world {T : Rt → Prop} {listed : Array Bool} {done : List Nat} {i : Nat} {ck : List Nat} {rest : List (Nat × List Nat)} {es : Nat → Env} {nm : Nat → Option Nat} {ds : List D} {e : Env} {h : Heap} {ρ : Ren} {a : Act} {w : World}
    (hop : ∀ o : Oper, (∀ c, o.op ≠ .defer c) → OpOk T P C (opK C o.op) o) (hT : T rt) (S : DrawOk C nt ops A) (D : Drw P C nt ops A rt k ρ₀ h₀ w₀ e₀ listed done ((i, ck) :: rest) es nm ds e h ρ a w) (hc : 3 ≤ clsOf C ops.toList i)
    (hr : ∀ p ∈ predsOf (pickO ops.toList i), listed.getD p false = true) {r : Option Nat} {K : Act → World → Prop} {Q : Exit → Act → World → Prop}
    (hK : ∀ e' h' ρ' a' w', Drw P C nt ops A rt k ρ₀ h₀ w₀ e₀ (listed.setIfInBounds i true) (i :: done) rest es nm ds e' h' ρ' a' w' → K a' w') : wpOpIn (fen r) 0 P ops Q i K a w := by
  have H := drawChk_head D.chk
  have hlt := H.lt
  have hls : i < listed.size := by rw [D.lst]; exact hlt
  have hanc := D.anc S hlt hr
  have ho := pick_get hlt
  have hun : listed.getD i false = false := D.unr (i, ck) (by simp)
  have hx : (operK C nt ops.toList (pickO ops.toList i) (tellsK C nt ops.toList (ck.map (pickO ops.toList)) (drawnK C nt ops.toList (itemsOf ops.toList rest)))).run rt ds e h k = true := D.run
  have notd : ∀ j ∈ done, j ≠ i := fun j hj hji => H.new (hji ▸ hj)
  have hE : EnvRel ρ (cut ((pickO ops.toList i).looksAt ops) e) a.tmps := by
    refine cut_rel fun t htl => D.env' t fun j hj hd => ?_
    rcases (S.look i j t hlt (D.dlt j hj) hd htl).2 with h | h
    · exact hanc j h
    · exact absurd (D.dcl j hj i h) H.new
  have mk : ∀ (V : V) (v : Value) (e' : Env) (h' : Heap) (ρ' : Ren) (w' : World), (∀ t, (eg t).get e' = if dstOf ops.toList i = some t then V else (eg t).get e) →
      (tellsK C nt ops.toList (ck.map (pickO ops.toList)) (drawnK C nt ops.toList (itemsOf ops.toList rest))).run rt ds e' h' k = true → RelV ρ' V v → HeapRel P C ρ' h' w' → Le ρ h w ρ' h' w' →
      Drw P C nt ops A rt k ρ₀ h₀ w₀ e₀ (listed.setIfInBounds i true) (i :: done) rest es nm ds e' h' ρ' (a.put (dstOf ops.toList i) v) w' := by
    intro V v e' h' ρ' w' he hrun hv hH hL
    obtain ⟨hrun, htold⟩ := tells_told (fun j hj => (H.told j hj).1) hrun
    have keep : ∀ t, dstOf ops.toList i ≠ some t → (a.put (dstOf ops.toList i) v).tmps.getD t undef = a.tmps.getD t undef := fun t ht => by rw [put_get, if_neg (fun h => ht h.1)]
    refine ⟨hrun, H.rest, by simp [D.lst], fun j hj => ?_, fun j hj => ?_, fun p hp => ?_, fun j hj => ?_, fun j hj ht p hp => ?_, fun j hj p hp => ?_, fun t ht => ?_, fun t ht => ?_, fun t ht => ?_, ?_, ?_, hH, D.le.trans hL, fun j hj hju t htl => ?_, fun j hj hju => ?_, fun j q hq => ?_, D.inj⟩
    · cases hj with
      | head => exact hlt
      | tail _ hj => exact D.dlt j hj
    · rcases D.all j hj with h | ⟨p, hp, rfl⟩
      · exact .inl (List.mem_cons_of_mem _ h)
      · cases hp with
        | head => exact .inl (by simp)
        | tail _ hp => exact .inr ⟨p, hp, rfl⟩
    · rw [set_ne (fun hpi => drawChk_notin H.rest p hp (by rw [hpi]; simp))]
      exact D.unr p (by simp [hp])
    · cases hj with
      | head => exact .inl (set_self hls)
      | tail _ hj =>
        rcases D.eag j hj with h | h
        · exact .inl (taken_set h)
        · exact .inr h
    · by_cases hji : j = i
      · subst hji; exact taken_set (hanc p hp)
      · rw [set_ne hji] at ht
        exact taken_set (D.clo j hj ht p hp)
    · cases hj with
      | head =>
        rcases S.closed i p hlt hp with h | ⟨q, hq, h⟩
        · exact List.mem_cons_of_mem _ (H.preds p h)
        · exact List.mem_cons_of_mem _ (D.dcl q (H.preds q hq) p h)
      | tail _ hj => exact List.mem_cons_of_mem _ (D.dcl j hj p hp)
    · obtain ⟨j, hj, hju, hd⟩ := ht
      obtain ⟨hji, hju⟩ := untaken_set hls hju
      cases hj with
      | head => exact absurd rfl hji
      | tail _ hj =>
        rw [keep t (fun hdi => hji (S.dst j i t (D.dlt j hj) hlt hd hdi))]
        exact (D.env t ⟨j, hj, hju, hd⟩).mono hL.ren
    · by_cases hdi : dstOf ops.toList i = some t
      · rw [put_get, if_pos ⟨hdi, by rw [D.siz]; exact S.dlt i t hlt hdi⟩, he, if_pos hdi]
        exact hv
      · rw [keep t hdi, he, if_neg hdi]
        refine (D.env' t fun j hj hd => ?_).mono hL.ren
        have := ht j (List.mem_cons_of_mem _ hj) hd
        rwa [set_ne (notd j hj)] at this
    · rw [he, if_neg (ht i (by simp))]
      exact D.une t fun m hm => ht m (List.mem_cons_of_mem _ hm)
    · have : ∀ dst : Option Nat, (a.put dst v).tmps.size = a.tmps.size := fun dst => by cases dst <;> simp [Act.put]
      rw [this, D.siz]
    · have : ∀ dst : Option Nat, (a.put dst v).defers = a.defers := fun dst => by cases dst <;> rfl
      rw [this]
      exact D.dfr.mono fun _ _ => DRel.mono hL.ren
    · obtain ⟨hji, hju⟩ := untaken_set hls hju
      cases hj with
      | head => exact absurd rfl hji
      | tail _ hj =>
        obtain ⟨l1, l2⟩ := D.look j hj hju t htl
        refine ⟨fun m m1 m2 m3 => ?_, l2⟩
        rw [l1 m m1 m2 m3, he, if_neg]
        intro hd
        have := S.dst m i t m1 hlt m2 hd
        subst this
        exact H.new (D.dcl j hj m m3)
    · obtain ⟨hji, hju⟩ := untaken_set hls hju
      cases hj with
      | head => exact absurd rfl hji
      | tail _ hj =>
        refine D.retell S he htold hj hju (fun h1 => ?_) (fun q hq => ?_)
        · rcases H.tells (by omega) j hj h1 with ⟨_, h⟩ | h
          · rw [hanc j h] at hju; cases hju
          · exact h
        · obtain ⟨_, _, a3, a4, _⟩ := D.nam j q hq
          exact (hL.fresh q a4 a3).1
    · obtain ⟨a1, a2, a3, a4, a5⟩ := D.nam j q hq
      exact ⟨List.mem_cons_of_mem _ a1, by rw [set_ne (notd j a1)]; exact a2, (hL.fresh q a4 a3).2, Nat.lt_of_lt_of_le a4 hL.nx, a5⟩
  unfold wpOpIn
  rw [ho]
  dsimp only
  rcases operK_cases H.plain hx with ⟨hw, hx⟩ | ⟨hw, hx⟩
  · rw [wanted_of (by rw [wants_cut]; exact hw) hE, if_pos rfl]
    rw [← dep_cut (ops := ops)] at hx
    refine hop _ H.plain rt r _ h _ ρ a w hT hx hE D.hep K Q ?_
    rintro v w' ⟨V, h', ρ', hk, hv, hH, hL⟩
    obtain ⟨e', h5, h6⟩ := put_cases hk
    exact hK _ _ _ _ _ (mk V v e' h' ρ' w' h6 h5 hv hH hL)
  · rw [wanted_of (by rw [wants_cut]; exact hw) hE]
    obtain ⟨e', h5, h6⟩ := put_cases hx
    exact ⟨fun _ _ => trivial, hK _ _ _ _ _ (mk tup0 undef e' h ρ w h6 h5 (RelV.tup_of (x := #[]) .nil) D.hep (Le.refl _ _ _))⟩

theorem opCls_le (o : Op) : opCls C o ≤ 3 := by
  unfold opCls
  repeat' split
  all_goals decide

theorem drawChk_world : ∀ {r : List (Nat × List Nat)} {done : List Nat}, drawChk C ops A done r = true → ∀ p ∈ r, ∀ j ∈ done, clsOf C ops.toList j = 3 → ancOf A j p.1 = true
  | [], done, h, p, hp => by cases hp
  | (i, ck) :: r, done, h, p, hp => by
    intro j hj hc
    have hh := drawChk_head h
    cases hp with
    | head => exact hh.world j hj hc
    | tail _ hp => exact drawChk_world hh.rest p hp j (List.mem_cons_of_mem _ hj) hc

/-- If nothing is ready, all was taken. -/
theorem all_taken {listed : Array Bool} (hno : ∀ i, i < ops.size → listed.getD i false = false → ∃ p ∈ predsOf (pickO ops.toList i), listed.getD p false = false) :
    ∀ {l : List (Nat × List Nat)} {done : List Nat}, drawChk C ops A done l = true → (∀ j ∈ done, listed.getD j false = true) → ∀ p ∈ l, listed.getD p.1 false = true
  | [], done, h, hd, p, hp => by cases hp
  | (i, ck) :: l, done, h, hd, p, hp => by
    have hh := drawChk_head h
    have hi : listed.getD i false = true := by
      cases hb : listed.getD i false with
      | true => rfl
      | false =>
        obtain ⟨q, hq, hqn⟩ := hno i hh.lt hb
        rw [hd q (hh.preds q hq)] at hqn; cases hqn
    cases hp with
    | head => exact hi
    | tail _ hp =>
      refine all_taken hno hh.rest (fun j hj => ?_) p hp
      cases hj with
      | head => exact hi
      | tail _ hj => exact hd j hj

theorem getD_flip {listed : Array Bool} {i : Nat} (h : i < listed.size) : listed.getD i true = listed.getD i false := by
  rw [Array.getD_eq_getD_getElem?, Array.getD_eq_getD_getElem?, Array.getElem?_eq_getElem h]; rfl
theorem mem_preds {o : Oper} {p : Nat} : p ∈ predsOf o ↔ ∃ e ∈ o.after, Region.binds .any e = true ∧ e.on = p := by
  unfold predsOf
  simp [and_assoc]

/-- (5) All together. -/
theorem drawn_any {T : Rt → Prop} (hC : CtxOk P C) (hop : ∀ o : Oper, (∀ c, o.op ≠ .defer c) → OpOk T P C (opK C o.op) o) (hT : T rt) (S : DrawOk C nt ops A) {l : List (Nat × List Nat)} (hl : drawChk C ops A [] l = true) (hla : ∀ i, i < ops.size → ∃ p ∈ l, p.1 = i)
    {r : Option Nat} {Q : Exit → Act → World → Prop} (hk : Kont P C ρ₀ h₀ w₀ nt k (Q .normal)) :
    ∀ (fuel : Nat) (U : List Nat) (listed : Array Bool) (done : List Nat) (rest : List (Nat × List Nat)) (es : Nat → Env) (nm : Nat → Option Nat) (ds : List D) (e : Env) (h : Heap) (ρ : Ren) (a : Act) (w : World),
      Drw P C nt ops A rt k ρ₀ h₀ w₀ e₀ listed done rest es nm ds e h ρ a w → (∀ p ∈ rest.head?, 3 ≤ clsOf C ops.toList p.1) → U.length ≤ fuel → (∀ i, i < ops.size → listed.getD i false = false → i ∈ U) →
      wpAnyIn (fen r) 0 P .any ops Q fuel listed a w := by
  have fin : ∀ (listed : Array Bool) (done : List Nat) (rest : List (Nat × List Nat)) (es : Nat → Env) (nm : Nat → Option Nat) (ds : List D) (e : Env) (h : Heap) (ρ : Ren) (a : Act) (w : World),
      Drw P C nt ops A rt k ρ₀ h₀ w₀ e₀ listed done rest es nm ds e h ρ a w → (∀ i, i < ops.size → listed.getD i false = true) → Q .normal a w := by
    intro listed done rest es nm ds e h ρ a w D hall
    have hrest : rest = [] := by
      cases rest with
      | nil => rfl
      | cons p rest =>
        have := D.unr p (by simp)
        obtain ⟨i, ck⟩ := p
        rw [hall i (drawChk_head D.chk).lt] at this; cases this
    subst hrest
    exact hk ds e h ρ a w D.run ⟨fun t => D.env' t fun i hi _ => hall i (D.dlt i hi), D.siz, D.dfr⟩ D.hep D.le
  have none_ready : ∀ (listed : Array Bool), listed.size = ops.size → Region.ready .any ops listed = [] → ∀ i, i < ops.size → listed.getD i false = true := by
    intro listed hs hr i hi
    obtain ⟨p, hp, rfl⟩ := hla i hi
    refine all_taken (fun j hj hju => ?_) hl (by simp) p hp
    refine Classical.byContradiction fun hno => ?_
    have : j ∈ Region.ready .any ops listed := by
      refine mem_ready.2 ⟨by rw [getD_flip (by rw [hs]; exact hj)]; exact hju, _, pick_get hj, fun e he hb => ?_⟩
      cases hb' : listed.getD e.on false with
      | true => rfl
      | false => exact absurd ⟨e.on, mem_preds.2 ⟨e, he, hb, rfl⟩, hb'⟩ hno
    rw [hr] at this; cases this
  intro fuel
  induction fuel with
  | zero =>
    intro U listed done rest es nm ds e h ρ a w D hh hU hUa
    have hall : ∀ i, i < ops.size → listed.getD i false = true := fun i hi => by
      cases hb : listed.getD i false with
      | true => rfl
      | false =>
        have := hUa i hi hb
        have : U = [] := List.length_eq_zero_iff.1 (by omega)
        subst this
        cases hUa i hi hb
    refine ⟨?_, fin _ _ _ _ _ _ _ _ _ _ _ D hall⟩
    cases hr : Region.ready .any ops listed with
    | nil => rfl
    | cons i rs =>
      have hi : i ∈ Region.ready .any ops listed := by rw [hr]; simp
      obtain ⟨h1, o, h2, _⟩ := mem_ready.1 hi
      have hlt : i < ops.size := by
        rcases Nat.lt_or_ge i ops.size with h' | h'
        · exact h'
        · rw [Array.getElem?_eq_none h'] at h2; cases h2
      rw [getD_flip (by rw [D.lst]; exact hlt), hall i hlt] at h1; cases h1
  | succ fuel ih =>
    intro U listed done rest es nm ds e h ρ a w D hh hU hUa
    refine ⟨fun hr => fin _ _ _ _ _ _ _ _ _ _ _ D (none_ready listed D.lst hr), fun i hi => ?_⟩
    obtain ⟨h1, o, h2, h3⟩ := mem_ready.1 hi
    have hlt : i < ops.size := by
      rcases Nat.lt_or_ge i ops.size with h' | h'
      · exact h'
      · rw [Array.getElem?_eq_none h'] at h2; cases h2
    have hu : listed.getD i false = false := by rw [← getD_flip (by rw [D.lst]; exact hlt)]; exact h1
    have ho : o = pickO ops.toList i := by rw [pick_get hlt] at h2; exact (Option.some.inj h2).symm
    have hr : ∀ p ∈ predsOf (pickO ops.toList i), listed.getD p false = true := fun p hp => by
      obtain ⟨e, he, hb, rfl⟩ := mem_preds.1 hp
      exact h3 e (by rw [ho]; exact he) hb
    have hls : i < listed.size := by rw [D.lst]; exact hlt
    have hU' : (U.erase i).length ≤ fuel := by
      have := List.length_erase_of_mem (hUa i hlt hu)
      omega
    have hUa' : ∀ j, j < ops.size → (listed.setIfInBounds i true).getD j false = false → j ∈ U.erase i := fun j hj hju => by
      obtain ⟨hji, hju⟩ := untaken_set hls hju
      exact (List.mem_erase_of_ne hji).2 (hUa j hj hju)
    rcases D.all i hlt with hd | ⟨p, hp, hpi⟩
    · exact D.take hop hT S hd hu hr fun ρ' nm' a' w' D' => ih _ _ _ _ _ _ _ _ _ _ _ _ D' hh hU' hUa'
    · cases rest with
      | nil => cases hp
      | cons q rest =>
        obtain ⟨j, ck⟩ := q
        have hc := hh (j, ck) (by simp)
        by_cases hji : j = i
        · subst hji
          refine D.world hop hT S hc hr fun e' h' ρ' a' w' D' => ?_
          obtain ⟨done2, rest2, es2, nm2, e2, h2, D2, hh2⟩ := D'.settle hC S
          exact ih _ _ _ _ _ _ _ _ _ _ _ _ D2 hh2 hU' hUa'
        · exfalso
          have hp' : p ∈ rest := by
            cases hp with
            | head => exact absurd hpi hji
            | tail _ hp => exact hp
          have hH := drawChk_head D.chk
          have hjc : clsOf C ops.toList j = 3 := Nat.le_antisymm (opCls_le _) hc
          have := drawChk_world hH.rest p hp' j (by simp) hjc
          rw [hpi] at this
          have := D.anc S hlt hr j this
          rw [D.unr (j, ck) (by simp)] at this; cases this

/-- A region that draws its order. -/
theorem code_drawn {T : Rt → Prop} {fn id : Nat} {l : List (Nat × List Nat)} (hC : CtxOk P C) (hm : P.follows .mixedOrders = true) (hop : ∀ o : Oper, (∀ c, o.op ≠ .defer c) → OpOk T P C (opK C o.op) o) (hdr : C.dr fn id = some l) (hA : drawAll C (ntOf C fn) ops A l = true) :
    CodeOk T P C (ntOf C fn) (regionC C fn id ops true) (.region id ops true) := by
  intro rt rd r ds e h kn kx ρ a w Q hT hr hrun hE hH hn hk
  obtain ⟨S, hl, hla⟩ := drawAll_ok hA
  have hx : (drawnK C (ntOf C fn) ops.toList (itemsOf ops.toList l)).run rt ds e h kn = true := by
    unfold regionC at hrun
    dsimp only at hrun
    rw [hdr] at hrun
    exact hrun
  refine wpIn_region_any hm ?_
  have D : Drw P C (ntOf C fn) ops A rt kn ρ h w e (Array.replicate ops.size false) [] l (fun _ => e) (fun _ => none) ds e h ρ a { w with drawn := w.drawn + 1 } := by
    have hget : ∀ i, (Array.replicate ops.size false).getD i false = false := fun i => by
      rw [Array.getD_eq_getD_getElem?, Array.getElem?_replicate]
      split <;> rfl
    refine ⟨hx, hl, by simp, by simp, fun i hi => .inr (hla i hi), fun p _ => hget _, by simp, fun i _ ht => ?_, by simp, fun t ht => ?_, fun t _ => hE.env t, fun _ _ => rfl, hE.size, hE.defers, hH.world rfl, Le.world rfl, by simp, by simp, fun _ _ h => (by cases h), fun _ _ _ h => (by cases h)⟩
    · rw [hget] at ht; cases ht
    · obtain ⟨i, hi, _⟩ := ht; cases hi
  obtain ⟨done', rest', es', nm', e', h', D', hh⟩ := D.settle hC S
  exact drawn_any hC hop hT S hl hla hn ops.size (List.range ops.size) _ _ _ _ _ _ _ _ _ _ _ D' hh (by simp) (fun i hi _ => by simpa using hi)
end
end Go.Ev
end

section
/- The rest of the operations that call nothing. -/
namespace Go.Ev
open Go
set_option linter.unusedVariables false
set_option linter.unusedSimpArgs false
section
variable {P : Program} {C : Ctx} {ρ : Ren}

theorem ok_makeMapN {T : Rt → Prop} {o : Oper} {t : Nat} {x : Operand} (hC : CtxOk P C) (ho : o.op = .makeMap t (some x)) : OpOk T P C (opK C (.makeMap t (some x))) o := by
  have hd : ∀ c, o.op ≠ .defer c := by rw [ho]; simp
  unfold opK
  dsimp only
  split
  · rename_i ti hti
    obtain ⟨_, _, _, h3⟩ := ty_some hC hti
    split
    · rename_i kt el hdesc
      rw [hdesc] at h3
      intro rt r e h k ρ a w _ hx hE hH
      obtain ⟨kk, n, hv, hx⟩ := onInt_rel (opnd_rel hE x) hx
      obtain ⟨hp', hk, hn, hg⟩ := hnew_spec hx
      obtain ⟨hH', hL⟩ := hH.push (w' := w.alloc (.map #[] 0)) (B := ⟨w.heap.size, 0, 0⟩) rfl rfl hn hg ⟨#[], rfl, rfl, fun i x m h => by simp at h⟩
      refine Upon.value hd (w' := w.alloc (.map #[] 0)) (v := .map (some w.heap.size)) ?_ ⟨_, _, _, hk, .map _ ⟨w.heap.size, 0, 0⟩ (by simp), hH', hL⟩
      simp [execOp, ho, Instr.makeMap, run_und h3, hv, asInt, asIntOf]
    · exact .bad
  · exact .bad

theorem ok_clear {T : Rt → Prop} {o : Oper} {t : Nat} {x : Operand} {ts : Array TypeId} (hC : CtxOk P C) (ho : o.op = .call { callee := .builtin .clear, args := #[x], argTypes := ts }) : OpOk T P C (clearK C ts.toList x) o := by
  have hd : ∀ c, o.op ≠ .defer c := by rw [ho]; simp
  unfold clearK
  split
  · rename_i t _ hts
    have hts : ts[0]? = some t := by rw [← Array.getElem?_toList, hts]; rfl
    have fin : ∀ (a : Act) (w w' : World), (Builtin.clear_ ts o.type #[a.eval x]).run P w = .ok (.tuple #[]) w' → (execOp a.eval o).run P w = .ok (.value (.tuple #[])) w' := by
      intro a w w' hh
      obtain ⟨cs, hb⟩ := run_builtin (P := P) (a := a) (w := w) ho
      rw [hb]; simp [builtin, hh]
    split
    · rename_i ti hti
      obtain ⟨_, _, _, h3⟩ := ty_some hC hti
      split
      · rename_i kt el hdesc
        rw [hdesc] at h3
        intro rt r e h k ρ a w _ hx hE hH
        have hr := opnd_rel hE x
        rcases V.onMap_true.1 hx with ⟨i, hm, hx⟩ | ⟨hm, hx⟩
        · rw [hm] at hr
          obtain ⟨B, hB, hv⟩ := map_inv hr
          obtain ⟨es, c, hg, hx⟩ := O.onMap_true.1 hx
          obtain ⟨ms, hms, hl, hent⟩ := map_obj hH hB hg
          obtain ⟨h', hk, hH', hL⟩ := put_map hH hB hg (es' := []) (ms' := #[]) rfl (fun i x m h => by simp at h) hx
          refine Upon.value hd (fin a w _ ?_) ⟨tup0, h', ρ, hk, RelV.tup_of (x := #[]) .nil, hH', hL⟩
          simp [Builtin.clear_, hts, hv, run_und h3, run_getMap hms, run_setMap hms]
        · rw [hm] at hr
          have hv : a.eval x = .map none := by
            generalize a.eval x = vx at *
            cases hr; rfl
          refine Upon.value hd (fin a w w ?_) (After.same hx (RelV.tup_of (x := #[]) .nil) hH rfl)
          simp [Builtin.clear_, hts, hv, run_und h3]
      · rename_i el hdesc
        rw [hdesc] at h3
        split
        · rename_i ei hei
          obtain ⟨ie, g1, g2, _, g3, z, g4, _, g5, g6, g7, _⟩ := hC.ty el ei hei
          dsimp only
          split
          · exact .bad
          · rename_i hz
            intro rt r e h k ρ a w _ hx hE hH
            have hr := opnd_rel hE x
            rcases V.sliceOr_true.1 hx with ⟨i, p, n, c, hxv, hx⟩ | ⟨hxv, hx⟩ | ⟨_, hx⟩
            · rw [hxv] at hr
              obtain ⟨B, cap, hB, hv, _⟩ := sl_inv hr
              rw [frcApp_eq, List.append_nil] at hx
              have hzp : 0 < ei.zeros.length := by rw [g7]; exact Nat.pos_of_ne_zero fun he => hz he
              have hzs : z.cells.size = ei.sz := by
                have := (g5 ρ).1
                rw [g7] at this
                simpa using this.symm
              have hrel := rowZ_rel (m := n * ei.sz) (g5 ρ) hzp
              obtain ⟨h', w', hk, hst, hH', hL⟩ := rowPuts_rel hH hB hrel (rowZ_one g6 hzp) hx
              refine Upon.value hd (fin a w w' ?_) ⟨tup0, h', ρ, hk, RelV.tup_of (x := #[]) .nil, hH', hL⟩
              cases n with
              | zero =>
                have hst : w' = w := by
                  have e0 : ((Array.range (0 * ei.sz)).map (z.cells[· % z.cells.size]!)).toList = [] := by simp
                  rw [e0] at hst
                  simp only [storeCells, Sem.run_pure] at hst
                  cases hst; rfl
                subst hst
                simp [Builtin.clear_, hts, hv, run_und h3]
              | succ n =>
                have hzc : (Builtin.zeroCells z.cells (n + 1)).toList = ((Array.range ((n + 1) * ei.sz)).map (z.cells[· % z.cells.size]!)).toList := by
                  unfold Builtin.zeroCells; rw [hzs]
                have hst' : (storeCells ⟨B.b, p, none⟩ (Builtin.zeroCells z.cells (n + 1)).toList).run P w = .ok () w' := by rw [hzc]; exact hst
                simp [Builtin.clear_, hts, hv, run_und h3, run_zero g1 g4, hst']
            · rw [hxv] at hr
              have hv : a.eval x = .slice none 0 0 := by
                generalize a.eval x = vx at *
                cases hr; rfl
              refine Upon.value hd (fin a w w ?_) (After.same hx (RelV.tup_of (x := #[]) .nil) hH rfl)
              simp [Builtin.clear_, hts, hv, run_und h3]
            · exact absurd hx (by simp)
        · exact .bad
      · exact .bad
    · exact .bad
  · exact .bad

theorem ok_sliceData {T : Rt → Prop} {o : Oper} {x : Operand} {ts : Array TypeId} (ho : o.op = .call { callee := .builtin .unsafeSliceData, args := #[x], argTypes := ts }) :
    OpOk T P C (pureK (fun e q => V.sliceOr ((opnd x).get e) (fun i o n _ => ifb (Nat.beq n 0) false (q (.ptr i o))) (q .nilp) false)) o := by
  have hd : ∀ c, o.op ≠ .defer c := by rw [ho]; simp
  refine .pure hd fun ρ e q a w h hE => ?_
  have hr := opnd_rel hE x
  obtain ⟨cs, hb⟩ := run_builtin (P := P) (a := a) (w := w) ho
  rcases V.sliceOr_true.1 h with ⟨i, p, n, c, hxv, h⟩ | ⟨hxv, h⟩ | ⟨_, h⟩
  · rw [hxv] at hr
    obtain ⟨B, cap, hB, hv, hc, hn⟩ := sl_inv hr
    rcases ifb_true.1 h with ⟨_, h⟩ | ⟨h0, h⟩
    · exact absurd h (by simp)
    · refine ⟨_, _, h, .ptr i p B hB, by simp, ?_⟩
      have hn0 : n ≠ 0 := fun he => by subst he; simp at h0
      rw [hb]; simp [builtin, hv, Lib.run_unsafeSliceData_row w ts o.type ⟨B.b, p, none⟩ n cap (by omega)]
  · rw [hxv] at hr
    have hv : a.eval x = .slice none 0 0 := by
      generalize a.eval x = vx at *
      cases hr; rfl
    refine ⟨_, _, h, .nilp, by simp, ?_⟩
    rw [hb]; simp [builtin, hv, Lib.run_unsafeSliceData_nil]
  · exact absurd h (by simp)

theorem nilPtr_true {v : V} {q : Bool → Bool} (h : V.nilPtr v q = true) : (v = .nilp ∧ q true = true) ∨ q false = true := by
  cases v <;> simp [V.nilPtr] at h ⊢ <;> first | exact h | exact .inl h
theorem freeze_size (w : World) (a : Addr) (n : Nat) : (w.freeze a n).heap.size = w.heap.size := by
  unfold World.freeze
  split <;> simp
theorem freeze_other (w : World) (a : Addr) (n : Nat) {b : Nat} (h : b ≠ a.block) : (w.freeze a n).heap[b]? = w.heap[b]? := by
  unfold World.freeze
  split
  · rfl
  · show (w.heap.modify a.block _)[b]? = _
    rw [Array.getElem?_modify, if_neg (fun he => h he.symm)]

theorem ok_ustr {T : Rt → Prop} {o : Oper} {p n : Operand} {ts : Array TypeId} (hC : CtxOk P C) (ho : o.op = .call { callee := .builtin .unsafeString, args := #[p, n], argTypes := ts }) : OpOk T P C (ustrK C ts.toList p n) o := by
  have hd : ∀ c, o.op ≠ .defer c := by rw [ho]; simp
  by_cases hts : ∃ t u, ts = #[t, u]
  case neg =>
    unfold ustrK
    split
    · rename_i t u hts'
      exact absurd ⟨t, u, Array.ext' (by simpa using hts')⟩ hts
    · exact .bad
  obtain ⟨t, u, rfl⟩ := hts
  unfold ustrK
  dsimp only
  split
  · rename_i ti hti
    obtain ⟨_, _, _, h3⟩ := ty_some hC hti
    split
    · rename_i el hdesc
      rw [hdesc] at h3
      split
      · rename_i ei hei
        obtain ⟨ie, g1, g2, g3⟩ := ty_some hC hei
        split
        · rename_i hed
          have hone : ei.sz = 1 := hC.one el ei hei (by rw [hed]; rfl)
          have hcz : P.cellsOf el = 1 := by rw [cellsOf_size g1, g2, hone]
          intro rt r e h k ρ a w _ hx hE hH
          have hx : V.onNum ((opnd n).get e) (fun n => V.ifPtr ((opnd p).get e)
              (fun i o => ifb (Nat.beq o 0) (ifb (Nat.beq n 0) (k (.str []) h) (O.onRow (hget i h) (fun ety _ _ _ _ _ => ifb (Nat.beq ety el) (rowGets i 0 n h (fun vs => bytesL vs (fun s => hput i .dead h (fun h => k (.str s) h)))) false))) false)
              (V.nilPtr ((opnd p).get e) (fun b => ifb b (ifb (Nat.beq n 0) (k (.str []) h) false) false))) = true := hx
          have fin : ∀ (v : Value) (w' : World), (Builtin.unsafeString_ #[t, u] o.type #[a.eval p, a.eval n]).run P w = .ok v w' → (execOp a.eval o).run P w = .ok (.value v) w' := by
            intro v w' hh
            obtain ⟨cs, hb⟩ := run_builtin (P := P) (a := a) (w := w) ho
            rw [hb]; simp [builtin, hh]
          have rn := opnd_rel hE n
          have rp := opnd_rel hE p
          obtain ⟨m, hn, hx⟩ := V.onNum_true.1 hx
          rw [hn] at rn
          have hnv : a.eval n = .int .i64 (m : Int) ∧ m ≤ maxI := by
            generalize a.eval n = vn at *
            cases rn with | num _ h => exact ⟨rfl, h⟩
          obtain ⟨hnv, hmax⟩ := hnv
          rcases V.ifPtr_true.1 hx with ⟨i, q, hp, hx1⟩ | ⟨_, hx1⟩
          · rw [hp] at rp
            obtain ⟨B, hB, hpv⟩ : ∃ B, ρ i = some B ∧ a.eval p = .pointer (some ⟨B.b, q, none⟩) := by
              generalize a.eval p = vp at *
              cases rp with | ptr _ _ B hB => exact ⟨B, hB, rfl⟩
            obtain ⟨hq, hx2⟩ := ifb_and.1 hx1
            have hq := Nat.eq_of_beq_eq_true hq
            subst hq
            rcases ifb_true.1 hx2 with ⟨h0, hx3⟩ | ⟨h0, hx3⟩
            · have h0 := Nat.eq_of_beq_eq_true h0
              subst h0
              refine Upon.value hd (fin (.string .empty) w ?_) (After.same hx3 (.str ByteArray.empty) hH rfl)
              rw [hpv, hnv]
              exact Lib.run_unsafeString_none w t u o.type _
            · obtain ⟨ety, nn, fz, wh, z, c, hg, hx4⟩ := O.onRow_true.1 hx3
              obtain ⟨h4, hx5⟩ := ifb_and.1 hx4
              have h4 := Nat.eq_of_beq_eq_true h4
              subst h4
              obtain ⟨l, xs, hk, r1, r2, r3, r4⟩ := rowGets_rel hH hB hx5
              obtain ⟨ns, hk, rfl⟩ := bytesL_rel r1 hk
              obtain ⟨h', hk, hn', hg'⟩ := hput_spec hk
              obtain ⟨cs, fr, s1, s2, s3, s4, _⟩ := row_inv hH hB hg
              have hlen : ns.length = m := by have := r1.1; rw [← r3, this]; simp
              have hsh : w.shape? B.b = some (ety, cs.size) := by simp [World.shape?, s1]
              have hcell : ∀ j x, ns[j]? = some x → w.cell? ((⟨B.b, 0, none⟩ : Addr).add j) = some (.int .u8 x.toNat) := by
                intro j x hj
                exact r4 j _ (by rw [List.getElem?_map, hj]; rfl)
              have hle : ns.length ≤ cs.size := by
                obtain ⟨_, _, _, _, _, _, hg2, h6⟩ := O.onRow_true.1 hx5
                rw [hg] at hg2
                cases hg2
                have h7 : 0 + m ≤ nn := Nat.le_of_ble_eq_true (ifb_and.1 h6).1
                omega
              have hrun := Lib.run_unsafeString_row (P := P) w t u o.type ety h3 hcz B.b cs.size hsh ns (fun he => by rw [he] at hlen; simp at hlen; rw [← hlen] at h0; simp at h0) hle (by rw [hlen]; have : maxI = 9223372036854775807 := rfl; omega) hcell
              obtain ⟨hH', hL⟩ := hH.put (w' := w.freeze ⟨B.b, 0, none⟩ ns.length) (o := .dead) hB (by rw [hg]; rfl) (freeze_size _ _ _) trivial (fun b hne => freeze_other _ _ _ hne) hn' hg' (by simp) (by unfold World.freeze; split <;> exact ⟨rfl, rfl⟩)
              refine Upon.value hd (fin (.string ⟨ns.toArray⟩) _ ?_) ⟨.str (ns.map (·.toNat)), h', ρ, hk, ?_, hH', hL⟩
              · rw [hpv, hnv, ← hlen]; exact hrun
              · have e : bytesOf ⟨ns.toArray⟩ = ns.map (·.toNat) := rfl
                rw [← e]; exact .str _
          · obtain ⟨hp, hx2, hm⟩ : (opnd p).get e = .nilp ∧ k (.str []) h = true ∧ m = 0 := by
              rcases nilPtr_true hx1 with ⟨h4, h5⟩ | h5
              · obtain ⟨h6, h7⟩ := ifb_and.1 (show ifb (Nat.beq m 0) (k (.str []) h) false = true from h5)
                exact ⟨h4, h7, Nat.eq_of_beq_eq_true h6⟩
              · exact absurd h5 (by show ¬ (false = true); simp)
            subst hm
            rw [hp] at rp
            have hpv : a.eval p = .pointer none := by
              generalize a.eval p = vp at *
              cases rp; rfl
            refine Upon.value hd (fin (.string .empty) w ?_) (After.same hx2 (.str ByteArray.empty) hH rfl)
            rw [hpv, hnv]
            exact Lib.run_unsafeString_none w t u o.type _
        · exact .bad
      · exact .bad
    · exact .bad
  · exact .bad

theorem drop_next {s : List Nat} {pos : Nat} {k : List Nat → Bool} (h : dropL pos s k = true) : pos ≤ s.length ∧ k (s.drop pos) = true := by
  induction pos generalizing s with
  | zero => exact ⟨Nat.zero_le _, h⟩
  | succ n ih =>
    cases s with
    | nil => exact absurd h (by show ¬ (false = true); simp)
    | cons x s =>
      obtain ⟨h1, h2⟩ := ih h
      exact ⟨by simpa using h1, h2⟩

theorem ok_next {T : Rt → Prop} {o : Oper} {x : Operand} {s : Bool} (ho : o.op = .next x s) : OpOk T P C (nextK x s) o := by
  have hd : ∀ c, o.op ≠ .defer c := by rw [ho]; simp
  unfold nextK
  split
  · intro rt r e h k ρ a w _ hx hE hH
    obtain ⟨i, p, B, hB, hv, hx⟩ := onPtr_rel (opnd_rel hE x) hx
    obtain ⟨hp, hx⟩ := ifb_and.1 hx
    have hp := Nat.eq_of_beq_eq_true hp
    subst hp
    obtain ⟨s, pos, hg, hx⟩ := O.onIter_true.1 hx
    have hob := hH.obj i B hB
    rw [hg] at hob
    obtain ⟨b, hb, hs⟩ := hob
    obtain ⟨hpos, hx⟩ := drop_next hx
    have hbl : s.length = b.size := by rw [← hs]; unfold bytesOf; rw [List.length_map]; exact Array.length_toList
    have hgr : (getObj B.b).run P w = .ok (.stringIter b pos) w := by simp [getObj, Sem.run, hb]
    cases hdr : s.drop pos with
    | nil =>
      rw [hdr] at hx
      have hx : k (.tup [.bool false]) h = true := hx
      have hge : ¬ pos < b.size := by
        have := List.drop_eq_nil_iff.1 hdr
        omega
      refine Upon.value hd (v := .tuple #[.bool false]) (w' := w) ?_ (After.same hx (RelV.tup_of (x := #[.bool false]) (.cons (.bool false) .nil)) hH rfl)
      simp [execOp, ho, Instr.next, hv, hgr, hge]
    | cons c rs =>
      rw [hdr] at hx
      have hx : ifb (Nat.blt c 128) (ifb (Nat.ble pos maxI) (frc (Nat.add pos 1) (fun p => hput i (.siter s p) h (fun h => k (.tup [.bool true, .num pos, .ik .i32 (.ofNat c)]) h))) false) false = true := hx
      obtain ⟨hc, hx⟩ := ifb_and.1 hx
      obtain ⟨hmax, hx⟩ := ifb_and.1 hx
      have hmax := Nat.le_of_ble_eq_true hmax
      have hc : c < 128 := Nat.le_of_ble_eq_true hc
      rw [frc_eq] at hx
      obtain ⟨h', hk, hn, hg'⟩ := hput_spec hx
      have hlt : pos < s.length := by
        rcases Nat.lt_or_ge pos s.length with h | h
        · exact h
        · rw [List.drop_eq_nil_of_le h] at hdr; cases hdr
      have hltb : pos < b.size := by omega
      have hcv : (b.get! pos).toNat = c := by
        have h1 : s[pos]? = some c := by
          have := congrArg (fun l => l[0]?) hdr
          simpa [List.getElem?_drop] using this
        rw [← hs] at h1
        unfold bytesOf at h1
        rw [List.getElem?_map, Array.getElem?_toList] at h1
        have h2 : pos < b.data.size := hltb
        rw [Array.getElem?_eq_getElem h2] at h1
        simp only [Option.map_some, Option.some.injEq] at h1
        rw [← h1]
        congr 1
        show b.data[pos]! = b.data[pos]
        exact getElem!_pos b.data pos h2
      have hdec : Utf8.decode b pos = (c, 1) := by
        unfold Utf8.decode
        simp only [Nat.add_zero, hcv]
        rw [if_pos (by omega)]
      have hset : (setObj B.b (.stringIter b (pos + 1))).run P w = .ok () { w with heap := w.heap.setIfInBounds B.b (.stringIter b (pos + 1)) } := by
        simp [setObj, Sem.run, hb]
      have hbs := (hH.dom i B hB).2
      obtain ⟨hH', hL⟩ := hH.put (w' := { w with heap := w.heap.setIfInBounds B.b (.stringIter b (pos + 1)) }) (o := .siter s (pos + 1)) hB (by rw [hg]; rfl) (by simp)
        ⟨b, by simp [hbs], hs⟩ (fun b hne => by simp [Array.getElem?_setIfInBounds, hne.symm]) hn hg' (by simp)
      refine Upon.value hd (v := .tuple #[.bool true, goInt pos, .int .i32 (c : Int)]) ?_ ⟨_, h', ρ, hk, RelV.tup_of (x := #[.bool true, goInt pos, .int .i32 (c : Int)]) (.cons (.bool true) (.cons (.num pos hmax) (.cons (.ik .i32 (c : Int)) .nil))), hH', hL⟩
      simp [execOp, ho, Instr.next, hv, hgr, hltb, hdec, hset]
  · exact .bad
end
end Go.Ev
end

section
/- The library's functions without a body. -/
namespace Go.Ev
open Go
set_option linter.unusedVariables false
set_option linter.unusedSimpArgs false
section
variable {P : Program} {C : Ctx} {ρ : Ren}

/-- What comes of a function that is called: a value at once, or an activation that ends. -/
def CallRes (P : Program) (f : FuncId) (xs : Array Value) (w : World) (R : Value → World → Prop) : Prop :=
  (∃ v w', (callFunc f xs).run P w = .ok (.value v) w' ∧ R v w') ∨
  ((callFunc f xs).run P w = .ok (.enter f xs) w ∧ CallsIn (fen none) 0 P f xs w (fun e w' => ∃ v, e = .returned v ∧ R v w'))
theorem CallRes.mono {f : FuncId} {xs : Array Value} {w : World} {R R' : Value → World → Prop} (h : CallRes P f xs w R) (hr : ∀ v w', R v w' → R' v w') : CallRes P f xs w R' := by
  rcases h with ⟨v, w', h1, h2⟩ | ⟨h1, h2⟩
  · exact .inl ⟨v, w', h1, hr _ _ h2⟩
  · refine .inr ⟨h1, h2.mono ?_⟩
    rintro e w' ⟨v, he, h3⟩
    exact ⟨v, he, hr _ _ h3⟩

def ExtSound (P : Program) (C : Ctx) (e : Ext) (f : FuncId) : Prop :=
  ∀ (args : List V) (h : Heap) (k : V → Heap → Bool) (ρ : Ren) (xs : Array Value) (w : World), (extK C e).run args h k = true → RelL ρ args xs.toList → HeapRel P C ρ h w → CallRes P f xs w (After P C ρ h w k)

/-- A row of the library's table. -/
structure RowIs (P : Program) (f : FuncId) (row : Array Value → Sem Value) : Prop where
  is : ∃ fn, P.funcs[f]? = some fn ∧ (fn.name == "runtime.NumGoroutine") = false ∧ fn.body.isNone = true ∧ Extern.findNext fn = none ∧ Extern.find fn = some row

theorem RowIs.call {f : FuncId} {row : Array Value → Sem Value} (h : RowIs P f row) {xs : Array Value} {w w' : World} {v : Value} (hr : (row xs).run P w = .ok v w') : (callFunc f xs).run P w = .ok (.value v) w' := by
  obtain ⟨fn, h1, h2, h3, h4, h5⟩ := h.is
  rw [run_callFunc_extern h1 h2 h3 h4 h5, hr]
  rfl

theorem arg0_rel {args : List V} {xs : Array Value} {k : Bool} (hr : RelL ρ args xs.toList) (h : arg0 args k = true) : xs = #[] ∧ k = true := by
  cases args with
  | nil =>
    have := hr.unnil
    exact ⟨Array.ext' (by simpa using this), h⟩
  | cons a t => exact absurd h (by show ¬ (false = true); simp)
theorem argL0 {args : List V} {l : List Value} {k : Bool} (hr : RelL ρ args l) (h : arg0 args k = true) : l = [] ∧ k = true := by
  cases args with
  | nil => exact ⟨hr.unnil, h⟩
  | cons a t => exact absurd h (by show ¬ (false = true); simp)
theorem argL1 {args : List V} {l : List Value} {k : V → Bool} (hr : RelL ρ args l) (h : arg1 args k = true) : ∃ v x, l = [x] ∧ RelV ρ v x ∧ k v = true := by
  cases args with
  | nil => exact absurd h (by show ¬ (false = true); simp)
  | cons a t =>
    obtain ⟨x, l, rfl, h1, h2⟩ := hr.uncons
    obtain ⟨rfl, h3⟩ := argL0 h2 (show arg0 t (k a) = true from h)
    exact ⟨a, x, rfl, h1, h3⟩
theorem argL2 {args : List V} {l : List Value} {k : V → V → Bool} (hr : RelL ρ args l) (h : arg2 args k = true) : ∃ u x v y, l = [x, y] ∧ RelV ρ u x ∧ RelV ρ v y ∧ k u v = true := by
  cases args with
  | nil => exact absurd h (by show ¬ (false = true); simp)
  | cons a t =>
    obtain ⟨x, l, rfl, h1, h2⟩ := hr.uncons
    obtain ⟨v, y, rfl, h3, h4⟩ := argL1 h2 (show arg1 t (k a) = true from h)
    exact ⟨a, x, v, y, rfl, h1, h3, h4⟩
theorem argL3 {args : List V} {l : List Value} {k : V → V → V → Bool} (hr : RelL ρ args l) (h : arg3 args k = true) : ∃ u x v y t z, l = [x, y, z] ∧ RelV ρ u x ∧ RelV ρ v y ∧ RelV ρ t z ∧ k u v t = true := by
  cases args with
  | nil => exact absurd h (by show ¬ (false = true); simp)
  | cons a t =>
    obtain ⟨x, l, rfl, h1, h2⟩ := hr.uncons
    obtain ⟨v, y, u, z, rfl, h3, h4, h5⟩ := argL2 h2 (show arg2 t (k a) = true from h)
    exact ⟨a, x, v, y, u, z, rfl, h1, h3, h4, h5⟩
theorem arr_of {xs : Array Value} {l : List Value} (h : xs.toList = l) : xs = l.toArray := Array.ext' (by simpa using h)

theorem onK_rel {kd : IntKind} {v : V} {x : Value} {q : Int → Bool} (hr : RelV ρ v x) (h : V.onK kd v q = true) : ∃ n, x = .int kd n ∧ q n = true := by
  obtain ⟨k, n, rfl, h⟩ := onInt_rel hr h
  obtain ⟨h1, h2⟩ := ifb_and.1 h
  rw [beqK_iff.1 h1]
  exact ⟨n, rfl, h2⟩

theorem frozen_row {h : Heap} {w : World} {i o : Nat} {B : Blk} {v : V} {k : Heap → Bool} (hH : HeapRel P C ρ h w) (hB : ρ i = some B) (hx : rowPut i o v h k = true) : w.frozen? ⟨B.b, o, none⟩ = false := by
  obtain ⟨e, n, fz, wh, z, c, hg, hr⟩ := O.onRow_true.1 hx
  obtain ⟨h1, hr⟩ := ifb_and.1 hr
  obtain ⟨h2, hr⟩ := ifb_and.1 hr
  have h1 : o < n := Nat.le_of_ble_eq_true h1
  have h2 := Nat.le_of_ble_eq_true h2
  obtain ⟨cs, fr, h4, h5, h6, h7, h8, h9, h10⟩ := row_inv hH hB hg
  exact frozen_of h4 (h9 o h2 (by omega))
/-- A cell is stored. -/
theorem rowPut_rel {h : Heap} {w : World} {i o : Nat} {B : Blk} {v : V} {x u : Value} {k : Heap → Bool} (hH : HeapRel P C ρ h w) (hB : ρ i = some B) (hv : RelV ρ v x) (h1 : v.isOne = true) (hc : w.cell? ⟨B.b, o, none⟩ = some u) (hx : rowPut i o v h k = true) :
    ∃ h', k h' = true ∧ HeapRel P C ρ h' (w.setCell ⟨B.b, o, none⟩ x) ∧ Le ρ h w ρ h' (w.setCell ⟨B.b, o, none⟩ x) := by
  have hz := frozen_row hH hB hx
  obtain ⟨h', w', hk, hst, hH', hL⟩ := rowPuts_rel hH hB (.cons hv .nil) (by simpa using h1) (rowPut_puts hx)
  have hone := (one_of_isOne hv h1).1
  have : (storeCells ⟨B.b, o, none⟩ [x]).run P w = .ok () (w.setCell ⟨B.b, o, none⟩ x) := by
    have e : ((⟨B.b, o, none⟩ : Addr).add 0) = ⟨B.b, o, none⟩ := rfl
    simp [storeCells, e, run_store P w ⟨B.b, o, none⟩ x, hone, hc, hz, Result.andThen]
  rw [this] at hst
  cases hst
  exact ⟨h', hk, hH', hL⟩

theorem ext_load {f : FuncId} {kd : IntKind} (hf : RowIs P f (Extern.Atomic.loadT (.int kd))) : ExtSound P C (.aload kd) f := by
  intro args h k ρ xs w hx hr hH
  obtain ⟨v, x, hl, hv, hx⟩ := argL1 hr hx
  obtain ⟨i, o, B, hB, rfl, hx⟩ := onPtr_rel hv hx
  obtain ⟨v, x, hx, hvx, h1, hc⟩ := rowGet_rel hH hB hx
  obtain ⟨n, rfl, hx⟩ := onK_rel hvx hx
  refine .inl ⟨_, w, hf.call ?_, After.same hx hvx hH rfl⟩
  rw [arr_of hl]
  change (Sem.run P (do Extern.Atomic.read (.int kd) (← asAddr (.pointer (some ⟨B.b, o, none⟩)))) w) = _
  simp [Extern.Atomic.read, asAddr, hc, Result.andThen]

theorem ext_store {f : FuncId} (hf : RowIs P f Extern.Atomic.storeT) : ExtSound P C .astore f := by
  intro args h k ρ xs w hx hr hH
  obtain ⟨v, x, u, y, hl, hv, hu, hx⟩ := argL2 hr hx
  obtain ⟨i, o, B, hB, rfl, hx⟩ := onPtr_rel hv hx
  have hone : u.isOne = true := by
    rcases V.onInt_true.1 hx with ⟨n, rfl, _⟩ | ⟨_, n, rfl, _⟩ <;> rfl
  obtain ⟨kd, n, rfl, hx⟩ := onInt_rel hu hx
  obtain ⟨c, hc⟩ : ∃ c, w.cell? ⟨B.b, o, none⟩ = some c := by
    obtain ⟨e, m, fz, wh, z, cc, hg, hr⟩ := O.onRow_true.1 hx
    obtain ⟨h1, _⟩ := ifb_and.1 hr
    have h1 : o < m := Nat.le_of_ble_eq_true h1
    obtain ⟨cs, fr, h4, h5, h6, h7, _⟩ := row_inv hH hB hg
    exact ⟨cs[o], by rw [cell_of h4]; exact Array.getElem?_eq_getElem (by omega)⟩
  have hz := frozen_row hH hB hx
  obtain ⟨h', hk, hH', hL⟩ := rowPut_rel hH hB hu hone hc hx
  refine .inl ⟨.tuple #[], _, hf.call ?_, tup0, h', ρ, hk, RelV.tup_of (x := #[]) .nil, hH', hL⟩
  rw [arr_of hl]
  change (Sem.run P (do
    store (← asAddr (.pointer (some ⟨B.b, o, none⟩))) (.int kd n) .atomic
    pure Extern.Atomic.none_) w) = _
  simp [asAddr, hc, hz, run_store P w ⟨B.b, o, none⟩ (.int kd n) .atomic rfl, Result.andThen, Extern.Atomic.none_]

theorem ext_add {f : FuncId} {kd : IntKind} (hf : RowIs P f (Extern.Atomic.update (Op.intArith .add) kd true)) : ExtSound P C (.aadd kd) f := by
  intro args h k ρ xs w hx hr hH
  obtain ⟨v, x, u, y, hl, hv, hu, hx⟩ := argL2 hr hx
  obtain ⟨i, o, B, hB, rfl, hx⟩ := onPtr_rel hv hx
  obtain ⟨v, x, hx, hvx, h1, hc⟩ := rowGet_rel hH hB hx
  obtain ⟨n, rfl, hx⟩ := onK_rel hvx hx
  obtain ⟨m, rfl, hx⟩ := onK_rel hu hx
  have hone : ∀ {V : V} {s : Int}, RelV ρ V (.int kd s) → V ≠ .undef → V.isOne = true := by
    intro V s hV hne
    cases hV <;> first | rfl | (exact absurd rfl hne)
  obtain ⟨V, hx, hV, hne⟩ := mkI_rel (ρ := ρ) hx
  have hz := frozen_row hH hB hx
  obtain ⟨h', hk, hH', hL⟩ := rowPut_rel hH hB hV (hone hV hne) hc hx
  refine .inl ⟨_, _, hf.call ?_, V, h', ρ, hk, hV, hH', hL⟩
  rw [arr_of hl]
  change (Sem.run P (do
    let a' ← asAddr (.pointer (some ⟨B.b, o, none⟩))
    let old ← Extern.Atomic.read (.int kd) a'
    let new ← Op.intArith .add kd (← asInt old) (← asInt (.int kd m))
    store a' new .atomic
    pure (if true = true then new else old)) w) = _
  simp [Extern.Atomic.read, asAddr, asInt, asIntOf, hc, hz, Op.intArith, run_store P w ⟨B.b, o, none⟩ (.int kd (kd.wrap (n + m))) .atomic rfl, Result.andThen]

theorem ext_cas {f : FuncId} {kd : IntKind} (hf : RowIs P f (Extern.Atomic.casT (.int kd))) : ExtSound P C (.acas kd) f := by
  intro args h k ρ xs w hx hr hH
  obtain ⟨v, x, u, y, t, z, hl, hv, hu, ht, hx⟩ := argL3 hr hx
  obtain ⟨i, o, B, hB, rfl, hx⟩ := onPtr_rel hv hx
  obtain ⟨v, x, hx, hvx, h1, hc⟩ := rowGet_rel hH hB hx
  obtain ⟨a, rfl, hx⟩ := onK_rel hvx hx
  obtain ⟨b, rfl, hx⟩ := onK_rel hu hx
  have hone : t.isOne = true := by
    rcases V.onInt_true.1 hx with ⟨n, rfl, _⟩ | ⟨_, n, rfl, _⟩ <;> rfl
  obtain ⟨c, rfl, hx⟩ := onK_rel ht hx
  obtain ⟨hab, hx2⟩ := ifb_and.1 hx
  have hab := beqI_iff.1 hab
  subst hab
  have hz := frozen_row hH hB hx2
  obtain ⟨h', hk, hH', hL⟩ := rowPut_rel hH hB ht hone hc hx2
  obtain ⟨fn, f1, f2, f3, f4, f5⟩ := hf.is
  refine .inl ⟨.bool true, _, ?_, .bool true, h', ρ, hk, .bool true, hH', hL⟩
  rw [arr_of hl]
  exact run_call_cas_hit f1 f2 f3 f4 kd f5 hc hz

theorem ext_noop {f : FuncId} {m : Mark} (hf : RowIs P f (fun _ => do mark m; pure Extern.Race.none_)) : ExtSound P C .noop f := by
  intro args h k ρ xs w hx hr hH
  obtain ⟨hl, hx⟩ := argL0 hr hx
  refine .inl ⟨.tuple #[], w, hf.call ?_, After.same hx (RelV.tup_of (x := #[]) .nil) hH rfl⟩
  rfl
theorem ext_race {f : FuncId} {m : Addr → Mark} (hf : RowIs P f (Extern.Race.marked m)) : ExtSound P C .race f := by
  intro args h k ρ xs w hx hr hH
  obtain ⟨v, x, hl, hv, hx⟩ := argL1 hr hx
  obtain ⟨i, o, B, hB, rfl, hx⟩ := onPtr_rel hv hx
  refine .inl ⟨.tuple #[], w, hf.call ?_, After.same hx (RelV.tup_of (x := #[]) .nil) hH rfl⟩
  rw [arr_of hl]
  rfl
theorem ext_same {f : FuncId} (hf : RowIs P f Extern.AbiNoEscape.same) : ExtSound P C .same f := by
  intro args h k ρ xs w hx hr hH
  obtain ⟨v, x, hl, hv, hx⟩ := argL1 hr hx
  refine .inl ⟨x, w, hf.call ?_, After.same hx hv hH rfl⟩
  rw [arr_of hl]
  rfl

theorem byte_beq {b : UInt8} {c : Nat} (hc : c < 256) : (b == c.toUInt8) = Nat.beq b.toNat c := by
  rw [Bool.eq_iff_iff, beq_iff_eq]
  have hcc : (c.toUInt8).toNat = c := by simp; omega
  constructor
  · intro e
    subst e
    rw [hcc]; simp
  · intro e
    have e := Nat.eq_of_beq_eq_true e
    rw [← e]; simp

theorem idxB_rel (c : Nat) (hc : c < 256) {q : V → Bool} : ∀ (l : List UInt8) (i : Nat),
    foldL (fun (_ : Nat) => q (.ik .i64 (.negSucc 0))) (fun b _ r i => ifb (Nat.beq b c) (ifb (Nat.ble i maxI) (q (.num i)) false) (frc (Nat.add i 1) r)) (l.map (·.toNat)) i = true →
    ∃ V, q V = true ∧ ∀ ρ, RelV ρ V (.int .i64 (if Lib.indexByte l c.toUInt8 = -1 then -1 else Lib.indexByte l c.toUInt8 + i))
  | [], i, h => ⟨_, h, fun ρ => by simp [Lib.indexByte]; exact .ik .i64 (-1)⟩
  | b :: l, i, h => by
    have h : ifb (Nat.beq b.toNat c) (ifb (Nat.ble i maxI) (q (.num i)) false) (foldL (fun (_ : Nat) => q (.ik .i64 (.negSucc 0))) (fun b _ r i => ifb (Nat.beq b c) (ifb (Nat.ble i maxI) (q (.num i)) false) (frc (Nat.add i 1) r)) (l.map (·.toNat)) (i + 1)) = true := h
    have hbc := byte_beq (b := b) hc
    rcases ifb_true.1 h with ⟨h1, h2⟩ | ⟨h1, h2⟩
    · obtain ⟨h3, h4⟩ := ifb_and.1 h2
      refine ⟨_, h4, fun ρ => ?_⟩
      have : Lib.indexByte (b :: l) c.toUInt8 = 0 := by unfold Lib.indexByte; rw [hbc, h1]; rfl
      rw [this]
      simp
      exact .num i (Nat.le_of_ble_eq_true h3)
    · obtain ⟨V, h3, h4⟩ := idxB_rel c hc l (i + 1) h2
      refine ⟨V, h3, fun ρ => ?_⟩
      have hge := Lib.indexByte_ge l c.toUInt8
      have : Lib.indexByte (b :: l) c.toUInt8 = if Lib.indexByte l c.toUInt8 = -1 then -1 else Lib.indexByte l c.toUInt8 + 1 := by
        conv => lhs; unfold Lib.indexByte
        rw [hbc, h1]
        simp
      have h5 := h4 ρ
      rw [this]
      by_cases hm : Lib.indexByte l c.toUInt8 = -1
      · rw [if_pos hm] at h5
        simpa [hm] using h5
      · rw [if_neg hm] at h5
        rw [if_neg hm, if_neg (by omega)]
        have e : Lib.indexByte l c.toUInt8 + 1 + (i : Int) = Lib.indexByte l c.toUInt8 + ((i + 1 : Nat) : Int) := by omega
        rw [e]; exact h5

theorem ext_idxByte {f : FuncId} (hf : RowIs P f Extern.BytealgIndexByte.indexByte) : ExtSound P C .idxByte f := by
  intro args h k ρ xs w hx hr hH
  obtain ⟨v, x, u, y, hl, hv, hu, hx⟩ := argL2 hr hx
  obtain ⟨s, rfl, hx⟩ := onStr_rel hv hx
  obtain ⟨n, rfl, hx⟩ := onK_rel hu hx
  rcases frcI_true.1 hx with ⟨m, rfl, hx1⟩ | ⟨_, _, hx1⟩
  · obtain ⟨hm, hx2⟩ := ifb_and.1 hx1
    have hm : m < 256 := Nat.le_of_ble_eq_true hm
    obtain ⟨V, hk, hV⟩ := idxB_rel m hm (q := fun v => k v h) s.data.toList 0 hx2
    refine .inl ⟨.int .i64 (Lib.indexByte s.data.toList m.toUInt8), w, hf.call ?_, After.same hk ?_ hH rfl⟩
    · rw [arr_of hl]
      exact Lib.run_indexByteString s (m : Int) w
    · have := hV ρ
      have e : (if Lib.indexByte s.data.toList m.toUInt8 = -1 then -1 else Lib.indexByte s.data.toList m.toUInt8 + ((0 : Nat) : Int)) = Lib.indexByte s.data.toList m.toUInt8 := by split <;> simp_all
      rw [e] at this
      exact this
  · exact absurd hx1 (by simp)

theorem cntB_rel (c : Nat) (hc : c < 256) {q : V → Bool} : ∀ (l : List UInt8) (n : Nat),
    foldL (fun (n : Nat) => ifb (Nat.ble n maxI) (q (.num n)) false) (fun b _ r n => ifb (Nat.beq b c) (frc (Nat.add n 1) r) (r n)) (l.map (·.toNat)) n = true →
    q (.num (n + Lib.countByte l c.toUInt8)) = true ∧ n + Lib.countByte l c.toUInt8 ≤ maxI
  | [], n, h => by
    obtain ⟨h1, h2⟩ := ifb_and.1 (show ifb (Nat.ble n maxI) (q (.num n)) false = true from h)
    exact ⟨by simpa [Lib.countByte] using h2, by simpa [Lib.countByte] using Nat.le_of_ble_eq_true h1⟩
  | b :: l, n, h => by
    have h : ifb (Nat.beq b.toNat c) (foldL (fun (n : Nat) => ifb (Nat.ble n maxI) (q (.num n)) false) (fun b _ r n => ifb (Nat.beq b c) (frc (Nat.add n 1) r) (r n)) (l.map (·.toNat)) (n + 1)) (foldL (fun (n : Nat) => ifb (Nat.ble n maxI) (q (.num n)) false) (fun b _ r n => ifb (Nat.beq b c) (frc (Nat.add n 1) r) (r n)) (l.map (·.toNat)) n) = true := h
    have hbc := byte_beq (b := b) hc
    have hcount : Lib.countByte (b :: l) c.toUInt8 = Lib.countByte l c.toUInt8 + if Nat.beq b.toNat c then 1 else 0 := by
      unfold Lib.countByte
      rw [List.count_cons, hbc]
    rcases ifb_true.1 h with ⟨h1, h2⟩ | ⟨h1, h2⟩
    · obtain ⟨h3, h4⟩ := cntB_rel c hc l (n + 1) h2
      rw [hcount, h1, if_pos rfl]
      have e : n + (Lib.countByte l c.toUInt8 + 1) = n + 1 + Lib.countByte l c.toUInt8 := by omega
      rw [e]; exact ⟨h3, h4⟩
    · obtain ⟨h3, h4⟩ := cntB_rel c hc l n h2
      rw [hcount, h1]
      exact ⟨h3, h4⟩

theorem ext_count {f : FuncId} (hf : RowIs P f Extern.BytealgCount.count) : ExtSound P C .count f := by
  intro args h k ρ xs w hx hr hH
  obtain ⟨v, x, u, y, hl, hv, hu, hx⟩ := argL2 hr hx
  obtain ⟨s, rfl, hx⟩ := onStr_rel hv hx
  obtain ⟨n, rfl, hx⟩ := onK_rel hu hx
  rcases frcI_true.1 hx with ⟨m, rfl, hx1⟩ | ⟨_, _, hx1⟩
  · obtain ⟨hm, hx2⟩ := ifb_and.1 hx1
    have hm : m < 256 := Nat.le_of_ble_eq_true hm
    obtain ⟨hk, hle⟩ := cntB_rel m hm (q := fun v => k v h) s.data.toList 0 hx2
    rw [Nat.zero_add] at hk hle
    refine .inl ⟨.int .i64 ((Lib.countByte s.data.toList m.toUInt8 : Nat) : Int), w, hf.call ?_, After.same hk (.num _ hle) hH rfl⟩
    rw [arr_of hl]
    exact Lib.run_countString s (m : Int) w
  · exact absurd hx1 (by simp)

theorem ext_noZero {f : FuncId} {ps : Array TypeId} {t e : TypeId} (ht : P.underlying t = some (.slice e)) (hc : P.cellsOf e = 1) (hf : RowIs P f (Extern.BytealgMakeNoZero.makeNoZero ps #[t])) : ExtSound P C (.noZero e) f := by
  intro args h k ρ xs w hx hr hH
  obtain ⟨v, x, hl, hv, hx⟩ := argL1 hr hx
  obtain ⟨n, rfl, hx⟩ := V.onNum_true.1 hx
  obtain ⟨hn, hx2⟩ := ifb_and.1 hx
  have hn : n ≤ 65536 := Nat.le_of_ble_eq_true hn
  have hxv : x = .int .i64 (n : Int) := by cases hv; rfl
  subst hxv
  obtain ⟨h', hk, hnx, hg⟩ := hnew_spec hx2
  obtain ⟨cs, hrun, hsz, _⟩ := Lib.run_makeNoZero (P := P) w ps t e ht n (by omega)
  obtain ⟨hH', hL⟩ := hH.push (w' := w.drew.drew.alloc (.cells cs e)) (B := ⟨w.heap.size, cs.size, 1⟩) rfl rfl hnx hg ⟨cs, (0, 0), rfl, by simp, hc, Nat.zero_le _, fun h => by simp at h, fun j _ _ => by simp, fun j hj => absurd hj (Nat.not_lt_zero j)⟩
  refine .inl ⟨.slice (some ⟨w.heap.size, 0, none⟩) n cs.size, _, hf.call ?_, .sl h.nx 0 n (.less 0 1), h', _, hk, ?_, hH', hL⟩
  · rw [arr_of hl]; exact hrun
  · exact .sl _ _ _ _ _ ⟨w.heap.size, cs.size, 1⟩ (by simp) ⟨rfl, by simp, rfl⟩ hsz
end
end Go.Ev
end
