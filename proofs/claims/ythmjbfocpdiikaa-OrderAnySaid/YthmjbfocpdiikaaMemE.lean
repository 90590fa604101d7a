/-
  order.taken and order.Order.
-/
import Derived.Test.YthmjbfocpdiikaaMemB
import Derived.Test.YthmjbfocpdiikaaMemD
namespace Go.Proofs.Ythmjbfocpdiikaa
open Go.RowKit
set_option linter.unusedVariables false
set_option linter.unusedSimpArgs false
attribute [local go_sem] drewN_alloc drewN_setCell Oper.semAt_some

/-- What Order's own cells hold between two rounds. -/
def OrdI (w : World) (s : Nat) (xs : List (Nat × Int)) (X : World) : Prop :=
  ∃ v, X.cell? ⟨s + 1, 0, none⟩ = some v ∧ X.frozen? ⟨s + 1, 0, none⟩ = false ∧ OwnI w.heap.size X v (PO.ints (xs.map (·.1))) ∧ (∀ k, v.ownBlock = some k → k = s ∨ s + 8 ≤ k) ∧ Below w.heap.size w X ∧ w.heap.size ≤ s
theorem OrdI.grown {w X Y : World} {s : Nat} {xs : List (Nat × Int)} {row : Option Nat} (h : OrdI w s xs X) (hg : X.grownBy Y row) (hr : ∀ r, row = some r → s + 2 ≤ r ∧ r ≤ s + 7) : OrdI w s xs Y := by
  obtain ⟨v, h1, h2, h3, h4, h5, h6⟩ := h
  have hne : some (s + 1) ≠ row := fun e => by have := hr _ e.symm; omega
  have hlt := World.block_lt_of_cell? _ _ h1
  refine ⟨v, hg.cell h1 hne, (hg.frozen_far _ hlt hne).trans h2, ⟨h3.1, ?_⟩, h4, h5.grown hg h5.size (fun k e => by have := hr k e; omega), h6⟩
  rcases h3.2 with ⟨rfl, e⟩ | ⟨g, cap, cur, rfl, hb, hgg, r⟩
  · exact .inl ⟨rfl, e⟩
  · refine .inr ⟨g, cap, cur, rfl, hb, ?_, r⟩
    refine (hg.block g (Array.getElem?_eq_some_iff.1 hgg).1 (fun e => ?_)).trans hgg
    have a := h4 g rfl
    have b := hr g e.symm
    omega
def OrdK (s n : Nat) (A : Option Addr) (X Y : World) : Prop :=
  X.heap.size ≤ Y.heap.size ∧ ∀ k, k < X.heap.size → (k = s + 1 + 1 ∨ k = s + 1 + 1 + 1 ∨ k = s + 6 ∨ k = s + 7 ∨ (0 < n ∧ ∃ off, A = some ⟨k, off, none⟩)) → Y.heap[k]? = X.heap[k]?
theorem OrdK.trans {s n : Nat} {A : Option Addr} {X Y Z : World} (h : OrdK s n A X Y) (k : OrdK s n A Y Z) : OrdK s n A X Z :=
  ⟨Nat.le_trans h.1 k.1, fun i hi hh => (k.2 i (Nat.lt_of_lt_of_le hi h.1) hh).trans (h.2 i hi hh)⟩
theorem order_taken (A : Option Addr) (n c : Nat) (f : Int) (w : World) :
    Calls Try.prog 73 #[.int .i64 f, .slice A n c] w fun e w' => e = .returned (.func (.func 94) #[] #[.pointer (some ⟨w.heap.size + 1, 0, none⟩), .pointer (some ⟨w.heap.size, 0, none⟩)]) ∧
      (w.alloc (.cells #[.int .i64 f] 3)).alloc (.cells #[.slice A n c] 23) = w' := by
  go_enter Try.func73, Try.ntmps73
  go_wp2_with fail
  go_ret
  exact ⟨rfl, rfl⟩

theorem run_make_none {P : Program} (t e : TypeId) (z : Value) (bytes : Nat) (ht : P.underlying t = some (.slice e)) (hinfo : (P.info? e).map (fun i => (i.zero, i.size, i.bytes)) = some (some z, 1, bytes)) (hz1 : z.cells = #[z])
    (kl kc : IntKind) (n : Nat) (hbytes : bytes * n ≤ 281474976710656) (h63 : n ≤ 9223372036854775807) (w : World) :
    (Instr.makeSlice t (.int kl 0) (.int kc (n : Int))).run P w = .ok (.slice (some ⟨w.heap.size, 0, none⟩) 0 n) (w.alloc (.cells (madeCells #[z] n) e)) := by
  obtain ⟨i, hi, hzz⟩ := Option.map_eq_some_iff.1 hinfo
  simp only [Prod.mk.injEq] at hzz
  obtain ⟨hz, hs, hb⟩ := hzz
  have hb' : (i.bytes : Int) * (n : Int) ≤ 281474976710656 := by
    have h : ((i.bytes * n : Nat) : Int) ≤ 281474976710656 := by rw [hb]; omega
    rwa [Int.natCast_mul] at h
  have hr := run_make (P := P) w t e i z ht hi hz kl kc 0 n (by omega) (by omega) hb' (by omega)
  simp only [Int.toNat_natCast, hs, Nat.mul_one, hz1, Int.toNat_zero] at hr
  exact hr
theorem own_made (n : Nat) (hn : n ≤ 100000) (w : World) : OwnI w.heap.size (w.alloc (.cells (madeCells #[.int .i64 0] n) 3)) (.slice (some ⟨w.heap.size, 0, none⟩) 0 n) [] :=
  ⟨rfl, .inr ⟨w.heap.size, n, madeCells #[.int .i64 0] n, rfl, Nat.le_refl _, World.alloc_heap_new _ _, Nat.zero_le _, by unfold maxLen; omega, by rw [size_madeCells, Nat.mul_one], by simp [cellsI]⟩⟩

theorem app_listIn {F : Fence} {n : Nat} {ops : Array Oper} {rest : List Oper} {o : Oper} {a : Act} {Q : Exit → Act → World → Prop} {w : World} (hgd : o.guard = none) (s x : Operand)
    (ho : o.op = .call { callee := .builtin .append, args := #[s, x], argTypes := #[41, 41] })
    (B : Nat) (v : Value) (l : List Int) (hsv : a.eval s = v) (hown : OwnI B w v l)
    (A : Option Addr) (m c : Nat) (l2 : List Int) (hx : a.eval x = .slice A m c) (hs : SrcS 1 w A m (cellsI l2)) (hlen : l.length + m ≤ 1048576) (hbase : B ≤ w.heap.size)
    (h : ∀ v' w', OwnI B w' v' (l ++ l2) → w.grownBy w' v.ownBlock → (v'.ownBlock = v.ownBlock ∨ v'.ownBlock = some w.heap.size) → wpListIn F n Try.prog ops Q rest (a.put o.dst v') w') : wpListIn F n Try.prog ops Q (o :: rest) a w := by
  obtain ⟨i, hi, hz, hsz, hby⟩ := infoInt
  refine wpListIn_plain hgd fun K hK' => ?_
  obtain ⟨v', w', hrun, r1, r2, r3⟩ := run_append_S (P := Try.prog) w 1 (by decide) B 41 o.type 3 i _ 8 Try.underlying41 hi hz hsz hby rfl v l.length _ hown A m c _ hs (cellsI_one' l2) (by unfold maxLen; omega) (by omega) hbase
  unfold Oper.wpIn
  refine ⟨?_, ?_⟩
  · simp [Oper.about, ho, resolve, Target.leads, Sem.run_pure]
  · rw [Oper.semAt_plain F _ _ (by rw [ho]; intro c hc'; cases hc')]
    simp only [execOp, ho, resolve, invoke, builtin, Sem.run_bind, Sem.run_pure, Result.andThen_ok, List.map_toArray, List.map_cons, List.map_nil, hsv, hx, hrun]
    refine hK' _ _ (h v' w' ?_ r2 r3)
    have hm : m = l2.length := by have := hs.1; simp only [cellsI, List.length_map] at this; omega
    unfold OwnI
    rw [cellsI_append, List.length_append, ← hm]
    exact r1

set_option maxRecDepth 100000 in
set_option maxHeartbeats 8000000 in
theorem order_Order_yes {A : Option Addr} {n : Nat} {l : List PO.Mem} (c : Nat) (free : Int) {w : World} (h : MemAt w A n l) (hn : n ≤ 1000) (hm : PO.may free l = true) :
    Calls Try.prog 45 #[.int .i64 free, .slice A n c] w fun e w' => ∃ v, e = .returned (.tuple #[v, .bool (PO.order free l).2]) ∧ OwnI w.heap.size w' v (PO.ints (PO.order free l).1) ∧ Below w.heap.size w w' := by
  have K1 := order_may c free h
  rw [hm] at K1
  replace K1 := Lib.hid K1
  have hinfo : (Try.prog.info? 3).map (fun i => (i.zero, i.size, i.bytes)) = some (some (.int .i64 0), 1, 8) := by kernel_rfl
  have hmk := run_make_none (P := Try.prog) 41 3 (.int .i64 0) 8 Try.underlying41 hinfo rfl .i64 .i64 n (by omega) (by omega)
  obtain ⟨Z, hZ⟩ : ∃ Z, madeCells #[Value.int .i64 0] n = Z := ⟨_, rfl⟩
  rw [hZ] at hmk
  have HOM : Hid (∀ W : World, OwnI W.heap.size (W.alloc (.cells Z 3)) (.slice (some ⟨W.heap.size, 0, none⟩) 0 n) []) := Lib.hid (fun W => by rw [← hZ]; exact own_made n (by omega) W)
  have HM := Lib.hid hm
  have H := Lib.hid h
  clear hinfo hZ hm h
  refine callsIn_wide (n := 3) |>.1 ?_
  refine callsIn_of_wp_marks Try.func45 rfl trivial ?_ rfl
  simp only [Try.ntmps45, List.size_toArray, List.length_cons, List.length_nil, Nat.reduceAdd, Nat.reduceSub, Array.replicate_succ, Array.replicate_zero, List.push_toArray, List.append_toArray, List.nil_append, List.cons_append]
  refine wpIn_wide.2 ?_
  go_wp2_with fail
  refine K1.out.mono ?_
  rintro e w1 ⟨rfl, h1⟩
  go_wp2_with fail
  refine (order_taken A n c free _).mono ?_
  rintro e w2 ⟨rfl, hw2⟩
  go_wp2_with fail
  obtain ⟨s, hs⟩ : ∃ s, w1.heap.size = s := ⟨_, rfl⟩
  have HSW : w.heap.size ≤ s := by rw [← hs]; exact h1.size
  have hs2 : w2.heap.size = s + 4 := by rw [← hw2, ← hs]; simp
  have h12 : Below s w1 w2 := by rw [← hw2, ← hs]; exact (by repeat (first | exact Below.refl _ _ | assumption | refine bel_drew ?_ | refine bel_drewN ?_ _ | refine bel_alloc ?_ _ | refine bel_set ?_ (by first | (dsimp only; omega) | (simp; done) | (simp; omega)) _ | refine bel_trans ?_ (by assumption)))
  have hB2 : Below w.heap.size w w2 := h1.trans (h12.mono HSW)
  have hM2 := H.out.keep hB2
  have hO2 : OwnI w.heap.size w2 (.slice (some ⟨s, 0, none⟩) 0 n) [] := by
    have q := HOM.out w1
    have k : Below (w1.alloc (.cells Z 3)).heap.size (w1.alloc (.cells Z 3)) w2 := by rw [← hw2]; exact (by repeat (first | exact Below.refl _ _ | assumption | refine bel_drew ?_ | refine bel_drewN ?_ _ | refine bel_alloc ?_ _ | refine bel_set ?_ (by first | (dsimp only; omega) | (simp; done) | (simp; omega)) _ | refine bel_trans ?_ (by assumption)))
    have q2 := q.keep k
    rw [hs] at q2
    exact q2.mono HSW
  have co : w2.cell? ⟨s + 1, 0, none⟩ = some (.slice (some ⟨s, 0, none⟩) 0 n) := by rw [← hw2, ← hs]; simp [go_sem]
  have cof : w2.frozen? ⟨s + 1, 0, none⟩ = false := by rw [← hw2, ← hs]; simp [go_sem]
  have cf : w2.cell? ⟨s + 1 + 1, 0, none⟩ = some (.int .i64 free) := by rw [← hw2, ← hs]; simp [go_sem]
  have cff : w2.frozen? ⟨s + 1 + 1, 0, none⟩ = false := by rw [← hw2, ← hs]; simp [go_sem]
  have cl : w2.cell? ⟨s + 1 + 1 + 1, 0, none⟩ = some (.slice A n c) := by rw [← hw2, ← hs]; simp [go_sem]
  have hAB : Hid (0 < n → ∀ b off, A = some ⟨b, off, none⟩ → b < s) := Lib.hid (fun h0 b off e => by
    obtain ⟨b', off', e', hb, _⟩ := H.out.2.2.2 h0
    rw [e] at e'
    cases e'
    omega)
  clear hw2 h12 hmk HOM K1
  rw [hs]
  clear hs h1 w1
  refine (wpIn_wide (n := 3)).1 ?_
  refine range_plain (gf := 94) (lb := #[.pointer (some ⟨s + 1 + 1 + 1, 0, none⟩), .pointer (some ⟨s + 1 + 1, 0, none⟩)]) (encs := fun x : Nat × Int => #[.int .i64 (x.1 : Int), .int .i64 x.2]) rfl (fun args w => by simp [go_sem]) (fun x => rfl)
    (fun xs X => OrdI w s xs X) (fun X Y => OrdK s n A X Y) (fun xs => xs.map (·.1) = PO.takenAll free l) (fun r => r = s + 1 + 1 ∨ r = s + 6 ∨ r = s + 7) (s + 8) n ?_ ?_ ?_ ?_ ?_ ?_ ?_ ?_
    (fun x => { tmps := #[.int .i64 free, .slice A n c, undef, undef, .slice none 0 0, .bool false, .pointer (some ⟨s + 1, 0, none⟩), .int .i64 (x.1 : Int), .int .i64 free, .slice A n c, .bool true, .bool false, .slice A n c, .int .i64 (n : Int), .slice (some ⟨s, 0, none⟩) 0 n, .int .i64 free, .slice A n c, .func (.func 94) #[] #[.pointer (some ⟨s + 1 + 1 + 1, 0, none⟩), .pointer (some ⟨s + 1 + 1, 0, none⟩)], .int .i64 (x.1 : Int), .int .i64 x.2, undef, undef, undef, undef, undef, undef, undef, undef, undef, undef], defers := [] }) ?_ ?_ ?_
  · exact fun xs X Y row hI hg hr => hI.grown hg (fun r e => by rcases hr r e with h | h | h <;> omega)
  · rw [hs2]; omega
  · rw [hs2]; omega
  · intro xs X o hI hlt
    exact hI.grown (grownBy_putObj' X _ o) (fun r e => by cases e; rw [hs2]; omega)
  · intro X o hlt
    refine ⟨by simp, fun k hk hh => World.putObj_heap_other ?_⟩
    rw [hs2]
    rcases hh with h | h | h | h | ⟨h0, off, e⟩
    · omega
    · omega
    · omega
    · omega
    · have := hAB.out h0 k off e; omega
  · exact fun X Y Z h k => h.trans k
  · intro o
    have hI0 : OrdI w s [] w2 := ⟨_, co, cof, hO2, fun k e => .inl (by simpa [Value.ownBlock] using e.symm), hB2, HSW⟩
    exact (hI0.grown (World.grownBy_alloc _ _ none) (fun r e => by cases e)).grown (World.grownBy_alloc _ _ none) (fun r e => by cases e)
  · intro o
    obtain ⟨W, hW⟩ : ∃ W, (w2.alloc (.deferred (some []))).alloc o = W := ⟨_, rfl⟩
    rw [hW]
    have hbW : Below w2.heap.size w2 W := by rw [← hW]; exact (by repeat (first | exact Below.refl _ _ | assumption | refine bel_drew ?_ | refine bel_drewN ?_ _ | refine bel_alloc ?_ _ | refine bel_set ?_ (by first | (dsimp only; omega) | (simp; done) | (simp; omega)) _ | refine bel_trans ?_ (by assumption)))
    have sW : W.heap.size = s + 6 := by rw [← hW]; simp [hs2]
    have q := taken_iter c (s + 1 + 1 + 1) (s + 1 + 1) (w2.heap.size + 1) free (hM2.keep hbW) hn HM.out ((hbW.cell (p := ⟨s + 1 + 1 + 1, 0, none⟩) (by dsimp only; omega)).trans cl) ((hbW.cell (p := ⟨s + 1 + 1, 0, none⟩) (by dsimp only; omega)).trans cf) ((hbW.frozen (p := ⟨s + 1 + 1, 0, none⟩) (by dsimp only; omega)).trans cff) (by omega)
      (fun h0 b off e => by have := hAB.out h0 b off e; omega) (OrdK s n A) (fun X Y h => ⟨h.1, fun k hk hh => h.2 k hk (by rw [sW] at hh; rcases hh with h | h | h | h | h <;> simp [h])⟩)
    rw [sW] at q
    exact q
  · intro L m x W K hK
    gi_wp2
    exact hK
  · rintro L m pre x X hI hlt hsz hN
    clear hM2 hO2 co cof cf cff cl hB2
    have HI := Lib.hid hI
    obtain ⟨v, c1, f1, o1, k1, b1, _⟩ := hI
    obtain ⟨D, hD⟩ : ∃ D, pre.map (·.1) = D := ⟨_, rfl⟩
    rw [hD] at o1
    have hDl : D.length = pre.length := by rw [← hD, List.length_map]
    obtain ⟨A1, d1, rfl, _⟩ := o1.slice
    have HO := Lib.hid (o1.keep (bel_alloc (Below.refl X.heap.size X) (.cells #[.int .i64 (x.1 : Int)] 3)))
    have sb := b1.size
    have hpl : (PO.ints D).length + 1 ≤ 1048576 := by rw [PO.ints_len]; omega
    clear hDl
    gi_wp2_with (gi_at_builtin; (refine app_listIn rfl (.tmp 20) (.tmp 22) rfl w.heap.size _ (PO.ints D) rfl HO.out (some ⟨X.heap.size, 0, none⟩) 1 1 [(x.1 : Int)] rfl (src_oneI (by simp [go_sem])) hpl (by simp; omega) ?_; intro v' w' ho hg hor; obtain ⟨A2, d2, rfl, _⟩ := ho.ints; have hne : some (s + 1) ≠ (Value.slice A1 D.length d1).ownBlock := (fun e => by have := k1 _ e.symm; omega); have c2 := hg.cell (cell_alloc (.cells #[.int .i64 (x.1 : Int)] 3) (show s + 1 < X.heap.size by omega) c1) hne; have f2 := (hg.frozen_far ⟨s + 1, 0, none⟩ (by simp; omega) hne).trans (frozen_alloc (.cells #[.int .i64 (x.1 : Int)] 3) (show s + 1 < X.heap.size by omega) f1)))
    have hg' : (X.alloc (.cells #[.int .i64 (x.1 : Int)] 3)).grownBy w' (Value.slice A1 D.length d1).ownBlock := hg
    have hor' : (Value.slice A2 (PO.ints D ++ [(x.1 : Int)]).length d2).ownBlock = (Value.slice A1 D.length d1).ownBlock ∨ (Value.slice A2 (PO.ints D ++ [(x.1 : Int)]).length d2).ownBlock = some (X.alloc (.cells #[.int .i64 (x.1 : Int)] 3)).heap.size := hor
    have hl : (PO.ints D ++ [(x.1 : Int)]).length = (PO.ints D).length + 1 := by simp
    rw [hl] at ho hor'
    clear hg hor
    obtain ⟨V, hV⟩ : ∃ V, Value.slice A2 ((PO.ints D).length + 1) d2 = V := ⟨_, rfl⟩
    rw [hV] at ho hor' ⊢
    have hk2 : ∀ k, V.ownBlock = some k → k = s ∨ s + 8 ≤ k := fun k e => by
      rcases hor' with h | h
      · exact k1 k (h.symm.trans e)
      · rw [h] at e; simp at e; omega
    have key : ∀ k, k < X.heap.size → (k < s ∨ (s + 1 < k ∧ k < s + 8)) → (w'.setCell ⟨s + 1, 0, none⟩ V).heap[k]? = X.heap[k]? := fun k hk hh => by
      rw [Below.heap_setCell _ _ _ _ (by dsimp only; omega)]
      exact (hg'.block k (by simp; omega) (fun e => by have := k1 k e.symm; omega)).trans (Below.heap_alloc _ _ _ hk)
    have hsz2 := hg'.size
    simp only [World.size_alloc] at hsz2
    refine ⟨key _ (by omega) (by rw [hs2]; omega), key _ (by omega) (by rw [hs2]; omega), ⟨by rw [World.size_setCell]; omega, fun k hk hh => key k hk ?_⟩, V, World.cell?_setCell_same _ _ _ c2, by rw [World.frozen?_setCell]; exact f2, ?_, hk2, ?_, HSW⟩
    · rcases hh with h | h | h | h | ⟨h0, off, e⟩
      · omega
      · omega
      · omega
      · omega
      · have := hAB.out h0 k off e; omega
    · rw [List.map_append, hD]
      show OwnI w.heap.size _ V (PO.ints (D ++ [x.1]))
      rw [PO.ints_snoc]
      refine ⟨ho.1, ?_⟩
      rcases ho.2 with ⟨e1, e2⟩ | ⟨g, cap, cur, e1, hb, hgg, r⟩
      · exact .inl ⟨e1, e2⟩
      · refine .inr ⟨g, cap, cur, e1, hb, ?_, r⟩
        rw [Below.heap_setCell _ _ _ _ (by have := hk2 g (by rw [e1]; rfl); dsimp only; omega)]
        exact hgg
    · exact ((b1.alloc b1.size _).grown hg' (by simp; omega) (fun k e => by have := k1 k e; omega)).setCell (by dsimp only; omega) _
  · rintro xs X hS hI hK
    clear hM2 hO2 co cof cf cff cl hB2
    rw [hs2] at hK ⊢
    have HI := Lib.hid hI
    have e : PO.order free l = (if PO.may free l = false then ([], false) else if (PO.takenAll free l).length < l.length then ([], false) else (PO.takenAll free l, true)) := rfl
    rw [if_neg (by rw [HM.out]; simp), H.out.1] at e
    obtain ⟨v, c1, f1, o1, k1, b1, _⟩ := hI
    rw [hS] at o1
    generalize PO.takenAll free l = d at *
    obtain ⟨A1, d1, rfl, _⟩ := o1.slice
    have hKI : OrdI w s xs (X.putObj (s + 4) (.deferred none)) := HI.out.grown (grownBy_putObj' X _ _) (fun r e => by cases e; omega)
    have hfin : OwnI w.heap.size (X.putObj (s + 4) (.deferred none)) (.slice A1 d.length d1) (PO.ints d) ∧ Below w.heap.size w (X.putObj (s + 4) (.deferred none)) := by
      obtain ⟨v2, q1, q2, q3, q4, q5, _⟩ := hKI
      rw [hS] at q3
      have hc := ((grownBy_putObj' X (s + 4) (.deferred none)).cell c1 (by simp)).symm.trans q1
      cases hc
      exact ⟨q3, q5⟩
    replace hfin := Lib.hid hfin
    clear hKI o1 k1 b1 hS
    by_cases hd : d.length < n
    · rw [if_pos hd] at e
      have E := Lib.hid e
      have g1 : (d.length : Int) < (n : Int) := by omega
      clear hd e
      go_wp2_with fail
      refine ⟨by simp, .inl ⟨_, _, rfl, run_takeDeferred hK, ?_⟩⟩
      exact ⟨.tuple #[.slice none 0 0, .bool false], by simp [results, Try.results45, go_sem], _, by rw [E.out], by rw [E.out]; exact OwnI.nil _ _, hfin.out.2⟩
    · rw [if_neg hd] at e
      have E := Lib.hid e
      have g1 : ¬ (d.length : Int) < (n : Int) := by omega
      clear hd e
      go_wp2_with fail
      refine ⟨by simp, .inl ⟨_, _, rfl, run_takeDeferred hK, ?_⟩⟩
      exact ⟨.tuple #[.slice A1 d.length d1, .bool true], by simp [results, Try.results45, go_sem], _, by rw [E.out], by rw [E.out]; exact hfin.out.1, hfin.out.2⟩

theorem order_Order {A : Option Addr} {n : Nat} {l : List PO.Mem} (c : Nat) (free : Int) {w : World} (h : MemAt w A n l) (hn : n ≤ 1000) :
    Calls Try.prog 45 #[.int .i64 free, .slice A n c] w fun e w' => ∃ v, e = .returned (.tuple #[v, .bool (PO.order free l).2]) ∧ OwnI w.heap.size w' v (PO.ints (PO.order free l).1) ∧ Below w.heap.size w w' := by
  cases hm : PO.may free l
  · have K1 := order_may c free h
    rw [hm] at K1
    have e : PO.order free l = ([], false) := by unfold PO.order; rw [if_pos hm]
    rw [e]
    replace K1 := Lib.hid K1
    clear hm e h
    go_enter Try.func45, Try.ntmps45
    go_wp2_with fail
    refine K1.out.mono ?_
    rintro e w1 ⟨rfl, h1⟩
    go_wp2_with fail
    exact bodyPost_ret (v := .tuple #[.slice none 0 0, .bool false]) (by simp [results, Try.results45, go_sem]) rfl ⟨_, rfl, OwnI.nil _ _, (by repeat (first | exact Below.refl _ _ | assumption | refine bel_drew ?_ | refine bel_drewN ?_ _ | refine bel_alloc ?_ _ | refine bel_set ?_ (by first | (dsimp only; omega) | (simp; done) | (simp; omega)) _ | refine bel_trans ?_ (by assumption)))⟩
  · exact order_Order_yes c free h hn hm

theorem order_Safe {A : Option Addr} {n : Nat} {l : List PO.Mem} (c : Nat) (free : Int) {w : World} (h : MemAt w A n l) (hn : n ≤ 1000) :
    Calls Try.prog 42 #[.int .i64 free, .slice A n c] w fun e w' => e = .returned (.bool (PO.safe free l)) ∧ Below w.heap.size w w' := by
  have K := order_Order c free h hn
  show Calls Try.prog 42 #[.int .i64 free, .slice A n c] w fun e w' => e = .returned (.bool (PO.order free l).2) ∧ Below w.heap.size w w'
  generalize PO.order free l = R at *
  obtain ⟨d, q⟩ := R
  replace K := Lib.hid K
  clear h
  go_enter Try.func42, Try.ntmps42
  go_wp2_with fail
  refine K.out.mono ?_
  rintro e w1 ⟨v, rfl, ho, h1⟩
  obtain ⟨A1, c1, rfl, _⟩ := ho.slice
  clear ho
  go_wp2_with fail
  exact bodyPost_ret (v := .bool q) (by simp [results, Try.results42, go_sem]) rfl ⟨rfl, (by repeat (first | exact Below.refl _ _ | assumption | refine bel_drew ?_ | refine bel_drewN ?_ _ | refine bel_alloc ?_ _ | refine bel_set ?_ (by first | (dsimp only; omega) | (simp; done) | (simp; omega)) _ | refine bel_trans ?_ (by assumption)))⟩
end Go.Proofs.Ythmjbfocpdiikaa
