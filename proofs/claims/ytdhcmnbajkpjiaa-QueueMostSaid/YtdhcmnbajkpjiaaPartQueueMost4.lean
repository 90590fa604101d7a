/- Part 4 of the proof of QueueMost: lemmas, each with its conditions ahead of it. -/
import Derived.Test.YtdhcmnbajkpjiaaPartQueueMost3
import Derived.Test.YtdhcmnbajkpjiaaPartQueueMost1
/-
  Queue: a pointer that is nil, or a queue that New did not give.
-/
namespace Go.Proofs.Ytdhcmnbajkpjiaa
open Go.RowKit
open Go.Maps
set_option linter.unusedVariables false
set_option linter.unusedSimpArgs false
attribute [local go_sem] drewN_alloc drewN_setCell

def NoQ (w : World) (A : Option Addr) : Prop := A = none ∨ ∃ Z, A = some ⟨Z, 0, none⟩ ∧ w.cell? ⟨Z, 3, none⟩ = some (.map none)
theorem NoQ.keep {w w' : World} {A : Option Addr} (h : NoQ w A) (hb : Below w.heap.size w w') : NoQ w' A := by
  rcases h with rfl | ⟨Z, rfl, h⟩
  · exact .inl rfl
  · exact .inr ⟨Z, rfl, (hb.cell (p := ⟨Z, 3, none⟩) (World.block_lt_of_cell? _ _ h)).trans h⟩
set_option maxRecDepth 100000 in
theorem noq_is {w : World} {A : Option Addr} (h : NoQ w A) : Calls Try.prog 125 #[.pointer A] w fun e w' => e = .returned (.bool false) ∧ w = w' := by
  have hq := q_neq0
  rcases h with rfl | ⟨Z, rfl, h⟩
  · go_enter Try.func125, Try.ntmps125
    go_wp2_with fail
    go_ret
    exact ⟨rfl, rfl⟩
  · go_enter Try.func125, Try.ntmps125
    go_wp2_with fail
    go_ret
    exact ⟨rfl, rfl⟩
theorem noq_Add (x y : Int) {w : World} {A : Option Addr} (h : NoQ w A) : Calls Try.prog 60 #[.pointer A, .int .i64 x, .int .i64 y] w fun e w' => e = .returned (.int .i64 16) ∧ w = w' := by
  have K := Lib.hid (noq_is h)
  clear h
  go_enter Try.func60, Try.ntmps60
  go_wp2_with fail
  refine K.out.mono ?_
  rintro e w1 ⟨rfl, rfl⟩
  go_wp2_with fail
  go_ret
  exact ⟨rfl, rfl⟩
theorem noq_Drop (x : Int) {w : World} {A : Option Addr} (h : NoQ w A) : Calls Try.prog 58 #[.pointer A, .int .i64 x] w fun e w' => e = .returned (.int .i64 16) ∧ w = w' := by
  have K := Lib.hid (noq_is h)
  clear h
  go_enter Try.func58, Try.ntmps58
  go_wp2_with fail
  refine K.out.mono ?_
  rintro e w1 ⟨rfl, rfl⟩
  go_wp2_with fail
  go_ret
  exact ⟨rfl, rfl⟩
theorem noq_find (x : Int) {w : World} {A : Option Addr} (h : NoQ w A) : Calls Try.prog 126 #[.pointer A, .int .i64 x] w fun e w' => e = .returned (.int .i64 (-1)) ∧ w = w' := by
  have K := Lib.hid (noq_is h)
  clear h
  go_enter Try.func126, Try.ntmps126
  go_wp2_with fail
  refine K.out.mono ?_
  rintro e w1 ⟨rfl, rfl⟩
  go_wp2_with fail
  go_ret
  exact ⟨rfl, rfl⟩
theorem noq_First {w : World} {A : Option Addr} (h : NoQ w A) : Calls Try.prog 64 #[.pointer A] w fun e w' => e = .returned (.int .i64 0) ∧ w = w' := by
  have K := Lib.hid (noq_is h)
  clear h
  go_enter Try.func64, Try.ntmps64
  go_wp2_with fail
  refine K.out.mono ?_
  rintro e w1 ⟨rfl, rfl⟩
  go_wp2_with fail
  go_ret
  exact ⟨rfl, rfl⟩
theorem noq_Head (x : Int) {w : World} {A : Option Addr} (h : NoQ w A) : Calls Try.prog 66 #[.pointer A, .int .i64 x] w fun e w' => e = .returned (.int .i64 0) ∧ w = w' := by
  have K := Lib.hid (noq_is h)
  clear h
  go_enter Try.func66, Try.ntmps66
  go_wp2_with fail
  refine K.out.mono ?_
  rintro e w1 ⟨rfl, rfl⟩
  go_wp2_with fail
  go_ret
  exact ⟨rfl, rfl⟩
theorem noq_Len {w : World} {A : Option Addr} (h : NoQ w A) : Calls Try.prog 67 #[.pointer A] w fun e w' => e = .returned (.int .i64 0) ∧ w = w' := by
  have K := Lib.hid (noq_is h)
  clear h
  go_enter Try.func67, Try.ntmps67
  go_wp2_with fail
  refine K.out.mono ?_
  rintro e w1 ⟨rfl, rfl⟩
  go_wp2_with fail
  go_ret
  exact ⟨rfl, rfl⟩
theorem noq_List {w : World} {A : Option Addr} (h : NoQ w A) : Calls Try.prog 62 #[.pointer A] w fun e w' => e = .returned (.slice none 0 0) ∧ w = w' := by
  have K := Lib.hid (noq_is h)
  clear h
  go_enter Try.func62, Try.ntmps62
  go_wp2_with fail
  refine K.out.mono ?_
  rintro e w1 ⟨rfl, rfl⟩
  go_wp2_with fail
  go_ret
  exact ⟨rfl, rfl⟩
theorem noq_Of (x : Int) {w : World} {A : Option Addr} (h : NoQ w A) : Calls Try.prog 63 #[.pointer A, .int .i64 x] w fun e w' => e = .returned (.slice none 0 0) ∧ w = w' := by
  have K := Lib.hid (noq_is h)
  clear h
  go_enter Try.func63, Try.ntmps63
  go_wp2_with fail
  refine K.out.mono ?_
  rintro e w1 ⟨rfl, rfl⟩
  go_wp2_with fail
  go_ret
  exact ⟨rfl, rfl⟩
theorem noq_Next (x : Int) {w : World} {A : Option Addr} (h : NoQ w A) : Calls Try.prog 65 #[.pointer A, .int .i64 x] w fun e w' => e = .returned (.int .i64 0) ∧ w = w' := by
  have K := Lib.hid (noq_find x h)
  clear h
  go_enter Try.func65, Try.ntmps65
  go_wp2_with fail
  refine K.out.mono ?_
  rintro e w1 ⟨rfl, rfl⟩
  go_wp2_with fail
  go_ret
  exact ⟨rfl, rfl⟩
theorem noq_Ahead (x : Int) {w : World} {A : Option Addr} (h : NoQ w A) : Calls Try.prog 68 #[.pointer A, .int .i64 x] w fun e w' => e = .returned (.int .i64 (-1)) ∧ w = w' := by
  have K := Lib.hid (noq_find x h)
  clear h
  go_enter Try.func68, Try.ntmps68
  go_wp2_with fail
  refine K.out.mono ?_
  rintro e w1 ⟨rfl, rfl⟩
  go_wp2_with fail
  go_ret
  exact ⟨rfl, rfl⟩
theorem noq_Client (x : Int) {w : World} {A : Option Addr} (h : NoQ w A) : Calls Try.prog 69 #[.pointer A, .int .i64 x] w fun e w' => e = .returned (.int .i64 (-1)) ∧ w = w' := by
  have K := Lib.hid (noq_find x h)
  clear h
  go_enter Try.func69, Try.ntmps69
  go_wp2_with fail
  refine K.out.mono ?_
  rintro e w1 ⟨rfl, rfl⟩
  go_wp2_with fail
  go_ret
  exact ⟨rfl, rfl⟩
/-- The cells of a queue that nothing was put into. -/
def qzero : List Value := [.pointer none, .pointer none, .pointer none, .map none] ++ (z256 ++ z256).map (Value.int .i64)
theorem q_alloc {a : Act} {o : Oper} {w : World} (ho : o.op = .alloc 96) :
    (execOp a.eval o).run Try.prog w = .ok (.value (.pointer (some ⟨w.heap.size, 0, none⟩))) (w.alloc (.cells qzero.toArray 96)) := by
  unfold execOp
  simp only [ho]
  kernel_rfl
theorem noq_zero (w : World) : NoQ (w.alloc (.cells qzero.toArray 96)) (some ⟨w.heap.size, 0, none⟩) :=
  .inr ⟨w.heap.size, rfl, by rw [(RowAt.new w 96 qzero).cell]; rfl⟩
end Go.Proofs.Ytdhcmnbajkpjiaa
/-
  Queue in plain Lean: a queue that is kept full, whose ids rise.
-/
namespace Go.Proofs.Ytdhcmnbajkpjiaa
set_option linter.unusedVariables false
set_option linter.unusedSimpArgs false

namespace QT
/-- The first i tickets of QueueMost. -/
def fill : Nat → List (Int × Int)
  | 0 => []
  | i + 1 => fill i ++ [((i : Int) + 1, ((i : Int) + 1) % 5)]
theorem fill_len : ∀ i, (fill i).length = i
  | 0 => rfl
  | i + 1 => by unfold fill; rw [List.length_append, fill_len i]; rfl
/-- Ids rise, none is above m; clients are 0 to 4. -/
structure Rise (T : List (Int × Int)) (m : Int) : Prop where
  up : (ids T).Pairwise (· < ·)
  top : ∀ x ∈ ids T, 1 ≤ x ∧ x ≤ m
  cl : ∀ t ∈ T, 0 ≤ t.2 ∧ t.2 < 5
theorem Rise.nil : Rise [] 0 := ⟨List.Pairwise.nil, fun x h => (by cases h), fun t h => (by cases h)⟩
theorem ids_append (T U : List (Int × Int)) : ids (T ++ U) = ids T ++ ids U := by simp [ids]
theorem Rise.snoc {T : List (Int × Int)} {m n c : Int} (h : Rise T m) (hn : m < n) (h1 : 1 ≤ n) (c0 : 0 ≤ c) (c1 : c < 5) : Rise (T ++ [(n, c)]) n := by
  refine ⟨?_, fun x hx => ?_, fun t ht => ?_⟩
  · rw [ids_append, List.pairwise_append]
    refine ⟨h.up, List.pairwise_singleton _ _, fun a ha b hb => ?_⟩
    obtain rfl : b = n := by simpa [ids] using hb
    have := (h.top a ha).2
    omega
  · rw [ids_append, List.mem_append] at hx
    rcases hx with hx | hx
    · have := h.top x hx; omega
    · obtain rfl : x = n := by simpa [ids] using hx
      omega
  · rcases List.mem_append.1 ht with ht | ht
    · exact h.cl t ht
    · obtain rfl := List.mem_singleton.1 ht
      exact ⟨c0, c1⟩
theorem Rise.mono {T : List (Int × Int)} {m n : Int} (h : Rise T m) (hn : m ≤ n) : Rise T n := ⟨h.up, fun x hx => by have := h.top x hx; omega, h.cl⟩
theorem Rise.drop {T : List (Int × Int)} {m : Int} (h : Rise T m) (x : Int) : Rise (drop T x) m := by
  have hs : (QT.drop T x).Sublist T := List.filter_sublist
  exact ⟨h.up.sublist (hs.map _), fun y hy => h.top y ((hs.map _).subset hy), fun t ht => h.cl t (hs.subset ht)⟩
theorem Rise.new {T : List (Int × Int)} {m n : Int} (h : Rise T m) (hn : m < n) : n ∉ ids T := fun hm => by have := h.top n hm; omega
theorem add_yes {T : List (Int × Int)} {id c : Int} (h1 : 1 ≤ id) (c0 : 0 ≤ c) (c1 : c < 64) (hn : id ∉ ids T) (hl : T.length < 256) : addE T id c = 0 ∧ add T id c = T ++ [(id, c)] := by
  have e : addE T id c = 0 := by
    unfold addE
    rw [if_neg (by omega), if_neg hn, if_neg (by omega)]
  exact ⟨e, by unfold add; rw [e, if_pos rfl]⟩
theorem add_full {T : List (Int × Int)} {id c : Int} (h1 : 1 ≤ id) (c0 : 0 ≤ c) (c1 : c < 64) (hn : id ∉ ids T) (hl : T.length = 256) : addE T id c = 10 ∧ add T id c = T := by
  have e : addE T id c = 10 := by
    unfold addE
    rw [if_neg (by omega), if_neg hn, if_pos (by omega)]
  exact ⟨e, by unfold add; rw [e, if_neg (by omega)]⟩
theorem fill_rise : ∀ i : Nat, Rise (fill i) (i : Int)
  | 0 => Rise.nil
  | i + 1 => by
    have := (fill_rise i).snoc (n := (i : Int) + 1) (c := ((i : Int) + 1) % 5) (by omega) (by omega) (by omega) (by omega)
    exact this
theorem drop_len {T : List (Int × Int)} (hn : (ids T).Nodup) {x : Int} (hx : x ∈ ids T) : (drop T x).length + 1 = T.length := by
  induction T with
  | nil => cases hx
  | cons t r ih =>
    unfold ids at hn hx
    rw [List.map_cons, List.nodup_cons] at hn
    rw [List.map_cons] at hx
    unfold drop at ih ⊢
    by_cases e : t.1 = x
    · subst e
      have : r.filter (fun t' => decide (t'.1 ≠ t.1)) = r := by
        rw [List.filter_eq_self]
        intro u hu
        refine decide_eq_true (fun e => hn.1 ?_)
        exact List.mem_map.2 ⟨u, hu, e⟩
      simp only [List.filter_cons]
      rw [if_neg (by simp), this, List.length_cons]
    · have hx' : x ∈ r.map (fun t => t.1) := by
        rcases List.mem_cons.1 hx with h | h
        · exact absurd h.symm e
        · exact h
      simp only [List.filter_cons]
      rw [if_pos (by simpa using e), List.length_cons, List.length_cons]
      have := ih hn.2 hx'
      omega
theorem of_sum : ∀ {T : List (Int × Int)}, (∀ t ∈ T, 0 ≤ t.2 ∧ t.2 < 5) → (of T 0).length + (of T 1).length + (of T 2).length + (of T 3).length + (of T 4).length = T.length
  | [], _ => rfl
  | t :: r, h => by
    have ih := of_sum (T := r) (fun u hu => h u (List.mem_cons_of_mem _ hu))
    have ht := h t List.mem_cons_self
    have key : ∀ c : Int, (of (t :: r) c).length = (if t.2 = c then 1 else 0) + (of r c).length := fun c => by
      unfold of
      simp only [List.filter_cons]
      by_cases e : t.2 = c
      · rw [if_pos (decide_eq_true e), if_pos e, List.map_cons, List.length_cons]; omega
      · rw [if_neg (fun hh => e (of_decide_eq_true hh)), if_neg e]; omega
    rw [key, key, key, key, key, List.length_cons]
    have h5 : t.2 = 0 ∨ t.2 = 1 ∨ t.2 = 2 ∨ t.2 = 3 ∨ t.2 = 4 := by omega
    rcases h5 with e | e | e | e | e <;> rw [e] <;> simp <;> omega
end QT
end Go.Proofs.Ytdhcmnbajkpjiaa
/-
  The walk of QueueMost.
-/
namespace Go.Proofs.Ytdhcmnbajkpjiaa
open Go.RowKit
open Go.Maps
set_option linter.unusedVariables false
set_option linter.unusedSimpArgs false
attribute [local go_sem] drewN_alloc drewN_setCell

theorem gives_len {w : World} {xs : List Int} {f : Nat} {args : Array Value} {k : Nat} (hk : xs.length = k) (h : Calls Try.prog f args w (GivesInts w xs)) : Calls Try.prog f args w fun e w' => ∃ A c, e = .returned (.slice A k c) ∧ Below w.heap.size w w' :=
  h.mono fun e w' hh => by
    obtain ⟨A, n, c, rfl, h1, h2⟩ := hh
    have : n = k := by rw [← h1.1.1]; exact hk
    subst this
    exact ⟨A, c, rfl, h2⟩
def MostRel1 (w : World) (Qb : Nat) (i : Value) (wr : World) : Prop := ∃ (k : Nat) (own : Nat → Prop), k ≤ 256 ∧ i = .int .i64 ((k : Int) + 1) ∧ QOver w wr own Qb (QT.fill k)
def MostRel2 (w : World) (Qb n : Nat) (nx i : Value) (wr : World) : Prop := ∃ (j : Nat) (own : Nat → Prop) (T : List (Int × Int)) (m : Int), j ≤ n ∧ i = .int .i64 j ∧ nx = .int .i64 m ∧ 300 ≤ m ∧ m ≤ 300 + (j : Int) ∧ QOver w wr own Qb T ∧ QT.Rise T m ∧ T.length = 256
def lastV (l : List Int) (k : Nat) : Int := if k = 0 then 0 else l.getD (k - 1) 0
theorem last_lt {T : List (Int × Int)} {m : Int} (h : QT.Rise T m) {k : Nat} (hk : k < (QT.ids T).length) : lastV (QT.ids T) k < (QT.ids T).getD k 0 := by
  have e : (QT.ids T).getD k 0 = (QT.ids T)[k] := by simp [List.getD, hk]
  rw [e]
  unfold lastV
  split
  · have := (h.top _ (List.getElem_mem hk)).1; omega
  · have e2 : (QT.ids T).getD (k - 1) 0 = (QT.ids T)[k - 1]'(by omega) := by simp [List.getD, show k - 1 < (QT.ids T).length by omega]
    rw [e2]
    exact List.pairwise_iff_getElem.1 h.up (k - 1) k (by omega) hk (by omega)
def MostRel3 (w2 : World) (l : List Int) (lv i : Value) (wr : World) : Prop := ∃ k : Nat, k ≤ l.length ∧ i = .int .i64 k ∧ lv = .int .i64 (lastV l k) ∧ Below w2.heap.size w2 wr
set_option maxRecDepth 100000 in
set_option maxHeartbeats 8000000 in
theorem law33_QueueMost (A : Option Addr) (n c : Nat) (xs : List Int) (w : World) (hA : BytesAt w A n xs) :
    Calls Try.prog 10 #[.slice A n c] w fun e w' => e = .returned (.bool true) ∧ Below w.heap.size w w' := by
  by_cases h60 : 60 < n
  · have h1' : (60 : Int) < (n : Int) := by omega
    clear hA
    go_enter Try.func10, Try.ntmps10
    go_wp2_with fail
    refine (law33_works _).mono ?_
    rintro e w1 ⟨rfl, h1⟩
    go_wp2_with fail
    go_ret
    exact ⟨rfl, h1⟩
  have hd1 : decide ((60 : Int) < (n : Int)) = false := by simp; omega
  have j1 : (n : Int) ≤ 60 := by omega
  obtain ⟨hlen, -, hbd, hcl⟩ := hA
  have HLEN := Lib.hid hlen
  have HBD := Lib.hid hbd
  have HC := Lib.hid hcl
  have N := Lib.hid (q_New w)
  clear hlen hbd hcl h60
  go_enter Try.func10, Try.ntmps10
  go_wp2_with fail
  refine N.out.mono ?_
  rintro e w1 ⟨Qb, o1, rfl, h1⟩
  replace h1 := Lib.hid h1
  go_wp2_with fail
  go_loopw [4] (fun i wr => MostRel1 w Qb i wr) (fun i _ => 257 - (intOf i).toNat)
  case atStart => exact ⟨0, o1, by omega, by go_num, h1.out⟩
  case round =>
    clear h1 N
    obtain ⟨k, own, hk, rfl, ho⟩ := hrel
    have HO := Lib.hid ho
    clear ho
    by_cases hlt : k < 256
    · have hlt' : (k : Int) + 1 ≤ 256 := by omega
      obtain ⟨e1, e2⟩ := QT.add_yes (T := QT.fill k) (id := (k : Int) + 1) (c := ((k : Int) + 1) % 5) (by omega) (by omega) (by omega) ((QT.fill_rise k).new (by omega)) (by rw [QT.fill_len]; exact hlt)
      have KA := q_Add ((k : Int) + 1) (((k : Int) + 1) % 5) ⟨by omega, by omega⟩ HO.out
      rw [e1, e2] at KA
      replace KA := Lib.hid KA
      have g0 : (0 : Int) ≤ (k : Int) + 1 := by omega
      clear e1 e2
      go_wp2_with fail
      refine KA.out.mono ?_
      rintro e w2 ⟨rfl, h2⟩
      obtain ⟨o2, h2⟩ := h2.over
      replace h2 := Lib.hid h2
      go_wp2_with fail
      go_roundw
      case rel => exact ⟨k + 1, o2, by omega, by go_num, h2.out⟩
      case measure => simp [intOf]; omega
    · obtain rfl : k = 256 := by omega
      obtain ⟨e1, e2⟩ := QT.add_full (T := QT.fill 256) (id := 300) (c := 0) (by omega) (by omega) (by omega) ((QT.fill_rise 256).new (by omega)) (QT.fill_len 256)
      have KA := q_Add 300 0 ⟨by omega, by omega⟩ HO.out
      rw [e1, e2] at KA
      replace KA := Lib.hid KA
      have HR0 : Hid (QT.Rise (QT.fill 256) 300) := Lib.hid ((QT.fill_rise 256).mono (by omega))
      have HL0 : Hid ((QT.fill 256).length = 256) := Lib.hid (QT.fill_len 256)
      obtain ⟨T0, hT0⟩ : ∃ T, QT.fill 256 = T := ⟨_, rfl⟩
      rw [hT0] at HO KA HR0 HL0
      clear e1 e2 hT0 hk hlt
      go_wp2_with fail
      refine KA.out.mono ?_
      rintro e w2 ⟨rfl, h2⟩
      obtain ⟨o2, h2⟩ := h2.over
      replace h2 := Lib.hid h2
      clear KA HO
      go_wp2_with fail
      go_loopw [6, 7] (fun q i wr => MostRel2 w Qb n q i wr) (fun q i _ => n - (intOf i).toNat)
      case atStart => exact ⟨0, o2, T0, 300, Nat.zero_le _, rfl, rfl, by omega, by omega, h2.out, HR0.out, HL0.out⟩
      case round =>
        clear h2 HR0 HL0
        obtain ⟨j, own, T, m, hj, rfl, rfl, hm1, hm2, ho, hr, hl⟩ := hrel
        have HO := Lib.hid ho
        have HR := Lib.hid hr
        have HL := Lib.hid hl
        clear ho hr hl
        by_cases hlt : (j : Int) < n
        · obtain ⟨b, off, rfl, hb, hc⟩ := HC.out (by omega)
          have x0 := (HO.out.below.cell (p := ⟨b, off + j, none⟩) hb).trans (hc j (by omega))
          obtain ⟨x, hx⟩ : ∃ x, xs.getD j 0 = x := ⟨_, rfl⟩
          have hjl : j < xs.length := by have := HLEN.out; omega
          have hxe : xs[j] = x := by rw [← hx]; simp [List.getD, hjl]
          have hxb := HBD.out x (by rw [← hxe]; exact List.getElem_mem hjl)
          obtain ⟨hx0, hx1⟩ := hxb
          rw [hx] at x0
          have KD := q_Drop (1 + x) ⟨by omega, by omega⟩ HO.out
          have g0 : (0 : Int) ≤ (j : Int) := by omega
          have g1 : (j : Int) < (n : Int) := hlt
          have HJN : Hid (j + 1 ≤ n ∧ n - (j + 1) < n - j) := Lib.hid (by omega)
          clear hx hxe hjl hb hc
          by_cases hin : 1 + x ∈ QT.ids T
          · have e1 : QT.dropE T (1 + x) = 0 := by unfold QT.dropE; rw [if_pos hin]
            rw [e1] at KD
            replace KD := Lib.hid KD
            have hl2 := QT.drop_len HO.out.nodup hin
            have hl3 : (QT.drop T (1 + x)).length = 255 := by have := HL.out; omega
            obtain ⟨e3, e4⟩ := QT.add_yes (T := QT.drop T (1 + x)) (id := m + 1) (c := (j : Int) % 5) (by omega) (by omega) (by omega) ((HR.out.drop (1 + x)).new (by omega)) (by omega)
            have HR2 := Lib.hid ((HR.out.drop (1 + x)).snoc (n := m + 1) (c := (j : Int) % 5) (by omega) (by omega) (by omega) (by omega))
            have HL2 : Hid ((QT.drop T (1 + x) ++ [(m + 1, (j : Int) % 5)]).length = 256) := Lib.hid (by rw [List.length_append, hl3]; rfl)
            have KA : Hid (∀ (W : World) (own : Nat → Prop), QOver w W own Qb (QT.drop T (1 + x)) → Calls Try.prog 60 #[.pointer (some ⟨Qb, 0, none⟩), .int .i64 (m + 1), .int .i64 ((j : Int) % 5)] W fun e w' => e = .returned (.int .i64 0) ∧ QStep w W own Qb (QT.drop T (1 + x) ++ [(m + 1, (j : Int) % 5)]) w') := Lib.hid (fun W own hW => by
              have := q_Add (m + 1) ((j : Int) % 5) ⟨by omega, by omega⟩ hW
              rwa [e3, e4] at this)
            clear e1 e3 e4 hl2 hl3 hin
            go_wp2_with fail
            refine KD.out.mono ?_
            rintro e w2 ⟨rfl, h2⟩
            obtain ⟨o2, h2⟩ := h2.over
            replace h2 := Lib.hid h2
            go_wp2_with fail
            refine (KA.out _ _ h2.out).mono ?_
            rintro e w3 ⟨rfl, h3⟩
            obtain ⟨o3, h3⟩ := h3.over
            replace h3 := Lib.hid h3
            go_wp2_with fail
            go_roundw
            case rel => exact ⟨j + 1, o3, _, m + 1, HJN.out.1, by go_num, by go_num, by omega, by omega, h3.out, HR2.out, HL2.out⟩
            case measure => have := HJN.out; simp [intOf]; omega
          · have e1 : QT.dropE T (1 + x) = 12 := by unfold QT.dropE; rw [if_neg hin]
            have e2 : QT.drop T (1 + x) = T := by
              unfold QT.drop
              rw [List.filter_eq_self]
              intro t ht
              refine decide_eq_true (fun e => hin ?_)
              unfold QT.ids
              exact List.mem_map.2 ⟨t, ht, e⟩
            rw [e1, e2] at KD
            replace KD := Lib.hid KD
            clear e1 e2 hin
            go_wp2_with fail
            refine KD.out.mono ?_
            rintro e w2 ⟨rfl, h2⟩
            obtain ⟨o2, h2⟩ := h2.over
            replace h2 := Lib.hid h2
            go_wp2_with fail
            go_roundw
            case rel => exact ⟨j + 1, o2, T, m, HJN.out.1, by go_num, rfl, by omega, by omega, h2.out, HR.out, HL.out⟩
            case measure => have := HJN.out; simp [intOf]; omega
        · have K := Lib.hid (q_List HO.out)
          have HIL : Hid ((QT.ids T).length = 256) := Lib.hid (by simp [QT.ids, HL.out])
          clear HC HBD HLEN hm1 hm2
          go_wp2_with fail
          refine K.out.mono ?_
          rintro e w2 ⟨A2, m2, c2, rfl, hA2, hb2⟩
          have h2 := Lib.hid (HO.out.keep hb2)
          have hm2 : m2 = 256 := by have := hA2.1.1; have := HIL.out; omega
          subst hm2
          replace hA2 := Lib.hid hA2
          clear hb2 HO K hlt hj
          go_wp2_with fail
          go_loopw [9, 10] (fun q i wr => MostRel3 w2 (QT.ids T) q i wr) (fun q i _ => 256 - (intOf i).toNat)
          case atStart => exact ⟨0, Nat.zero_le _, rfl, rfl, Below.refl _ _⟩
          case round =>
            obtain ⟨k, hk, rfl, rfl, hb⟩ := hrel
            have HB := Lib.hid hb
            have H3 := Lib.hid (h2.out.keep hb)
            have hidl := HIL.out
            rw [hidl] at hk
            clear hb
            by_cases hlt : k < 256
            · have hlt' : (k : Int) < 256 := by omega
              have hlt3 := last_lt HR.out (k := k) (by omega)
              obtain ⟨b, off, rfl, hbb, hc⟩ := hA2.out.1.2.2 (by omega)
              have x0 := (HB.out.cell (p := ⟨b, off + k, none⟩) hbb).trans (hc k hlt)
              have HLV : Hid (lastV (QT.ids T) (k + 1) = (QT.ids T).getD k 0) := Lib.hid (by unfold lastV; rw [if_neg (by omega)]; rfl)
              obtain ⟨y, hy⟩ : ∃ y, (QT.ids T).getD k 0 = y := ⟨_, rfl⟩
              rw [hy] at x0 hlt3 HLV
              obtain ⟨z, hz⟩ : ∃ z, lastV (QT.ids T) k = z := ⟨_, rfl⟩
              rw [hz] at hlt3 ⊢
              have hd3 : decide (y ≤ z) = false := decide_eq_false (by omega)
              have g0 : (0 : Int) ≤ (k : Int) := by omega
              clear hc hy hz hidl
              go_wp2_with fail
              go_roundw
              case rel => exact ⟨k + 1, by have := HIL.out; omega, by go_num, by rw [HLV.out], HB.out⟩
              case measure => simp [intOf]; omega
            · obtain rfl : k = 256 := by omega
              generalize lastV (QT.ids T) 256 = lv
              have hsum := QT.of_sum HR.out.cl
              rw [HL.out] at hsum
              obtain ⟨l0, hl0⟩ : ∃ l, (QT.of T 0).length = l := ⟨_, rfl⟩
              have KO0 : Hid (∀ W, QOver w W own Qb T → Calls Try.prog 63 #[.pointer (some ⟨Qb, 0, none⟩), .int .i64 0] W fun e w' => ∃ A c, e = .returned (.slice A l0 c) ∧ Below W.heap.size W w') := Lib.hid (fun W hW => gives_len hl0 (q_Of 0 hW))
              rw [hl0] at hsum
              clear hl0
              obtain ⟨l1, hl1⟩ : ∃ l, (QT.of T 1).length = l := ⟨_, rfl⟩
              have KO1 : Hid (∀ W, QOver w W own Qb T → Calls Try.prog 63 #[.pointer (some ⟨Qb, 0, none⟩), .int .i64 1] W fun e w' => ∃ A c, e = .returned (.slice A l1 c) ∧ Below W.heap.size W w') := Lib.hid (fun W hW => gives_len hl1 (q_Of 1 hW))
              rw [hl1] at hsum
              clear hl1
              obtain ⟨l2, hl2⟩ : ∃ l, (QT.of T 2).length = l := ⟨_, rfl⟩
              have KO2 : Hid (∀ W, QOver w W own Qb T → Calls Try.prog 63 #[.pointer (some ⟨Qb, 0, none⟩), .int .i64 2] W fun e w' => ∃ A c, e = .returned (.slice A l2 c) ∧ Below W.heap.size W w') := Lib.hid (fun W hW => gives_len hl2 (q_Of 2 hW))
              rw [hl2] at hsum
              clear hl2
              obtain ⟨l3, hl3⟩ : ∃ l, (QT.of T 3).length = l := ⟨_, rfl⟩
              have KO3 : Hid (∀ W, QOver w W own Qb T → Calls Try.prog 63 #[.pointer (some ⟨Qb, 0, none⟩), .int .i64 3] W fun e w' => ∃ A c, e = .returned (.slice A l3 c) ∧ Below W.heap.size W w') := Lib.hid (fun W hW => gives_len hl3 (q_Of 3 hW))
              rw [hl3] at hsum
              clear hl3
              obtain ⟨l4, hl4⟩ : ∃ l, (QT.of T 4).length = l := ⟨_, rfl⟩
              have KO4 : Hid (∀ W, QOver w W own Qb T → Calls Try.prog 63 #[.pointer (some ⟨Qb, 0, none⟩), .int .i64 4] W fun e w' => ∃ A c, e = .returned (.slice A l4 c) ∧ Below W.heap.size W w') := Lib.hid (fun W hW => gives_len hl4 (q_Of 4 hW))
              rw [hl4] at hsum
              clear hl4
              have s1 : (l0 : Int) + (l1 : Int) ≤ 256 := by omega
              have s2 : (l0 : Int) + (l1 : Int) + (l2 : Int) ≤ 256 := by omega
              have s3 : (l0 : Int) + (l1 : Int) + (l2 : Int) + (l3 : Int) ≤ 256 := by omega
              have s4 : (l0 : Int) + (l1 : Int) + (l2 : Int) + (l3 : Int) + (l4 : Int) ≤ 256 := by omega
              have s5 : ((l0 : Int) + (l1 : Int) + (l2 : Int) + (l3 : Int) + (l4 : Int) == 256) = true := by simp; omega
              clear hsum hidl hk hlt
              have HZ0 := Lib.hid (noq_zero wr)
              have HBZ : Hid (Below wr.heap.size wr (wr.alloc (.cells qzero.toArray 96))) := Lib.hid (bel_alloc (Below.refl _ _) _)
              go_wp2_with (first | (refine wpList_yields rfl (q_alloc rfl) ?_))
              have HW := Lib.hid (bel_trans H3.out.below HBZ.out)
              have HQ0 := Lib.hid (H3.out.keep HBZ.out)
              refine (KO0.out _ HQ0.out).mono ?_
              rintro e v1 ⟨A0', d0, rfl, hb⟩
              have HQ1 := Lib.hid (HQ0.out.keep hb)
              have HZ1 := Lib.hid (HZ0.out.keep hb)
              have HW1 := Lib.hid (bel_trans HW.out hb)
              clear hb KO0
              go_wp2_with fail
              refine (KO1.out _ HQ1.out).mono ?_
              rintro e v2 ⟨A1', d1, rfl, hb⟩
              have HQ2 := Lib.hid (HQ1.out.keep hb)
              have HZ2 := Lib.hid (HZ1.out.keep hb)
              have HW2 := Lib.hid (bel_trans HW1.out hb)
              clear hb KO1
              go_wp2_with fail
              refine (KO2.out _ HQ2.out).mono ?_
              rintro e v3 ⟨A2', d2, rfl, hb⟩
              have HQ3 := Lib.hid (HQ2.out.keep hb)
              have HZ3 := Lib.hid (HZ2.out.keep hb)
              have HW3 := Lib.hid (bel_trans HW2.out hb)
              clear hb KO2
              go_wp2_with fail
              refine (KO3.out _ HQ3.out).mono ?_
              rintro e v4 ⟨A3', d3, rfl, hb⟩
              have HQ4 := Lib.hid (HQ3.out.keep hb)
              have HZ4 := Lib.hid (HZ3.out.keep hb)
              have HW4 := Lib.hid (bel_trans HW3.out hb)
              clear hb KO3
              go_wp2_with fail
              refine (KO4.out _ HQ4.out).mono ?_
              rintro e v5 ⟨A4', d4, rfl, hb⟩
              have HQ5 := Lib.hid (HQ4.out.keep hb)
              have HZ5 := Lib.hid (HZ4.out.keep hb)
              have HW5 := Lib.hid (bel_trans HW4.out hb)
              clear hb KO4
              go_wp2_with fail
              refine (noq_Add 1 0 (.inl rfl)).mono ?_
              rintro e v9 ⟨rfl, rfl⟩
              go_wp2_with fail
              refine (noq_Add 1 0 HZ5.out).mono ?_
              rintro e v9 ⟨rfl, rfl⟩
              go_wp2_with fail
              refine (noq_Drop 1 (.inl rfl)).mono ?_
              rintro e v9 ⟨rfl, rfl⟩
              go_wp2_with fail
              refine (noq_Drop 1 HZ5.out).mono ?_
              rintro e v9 ⟨rfl, rfl⟩
              go_wp2_with fail
              refine (noq_First  (.inl rfl)).mono ?_
              rintro e v9 ⟨rfl, rfl⟩
              go_wp2_with fail
              refine (noq_First  HZ5.out).mono ?_
              rintro e v9 ⟨rfl, rfl⟩
              go_wp2_with fail
              refine (noq_Next 1 (.inl rfl)).mono ?_
              rintro e v9 ⟨rfl, rfl⟩
              go_wp2_with fail
              refine (noq_Head 0 HZ5.out).mono ?_
              rintro e v9 ⟨rfl, rfl⟩
              go_wp2_with fail
              refine (noq_Len  (.inl rfl)).mono ?_
              rintro e v9 ⟨rfl, rfl⟩
              go_wp2_with fail
              refine (noq_Len  HZ5.out).mono ?_
              rintro e v9 ⟨rfl, rfl⟩
              go_wp2_with fail
              refine (noq_Ahead 1 (.inl rfl)).mono ?_
              rintro e v9 ⟨rfl, rfl⟩
              go_wp2_with fail
              refine (noq_Client 1 HZ5.out).mono ?_
              rintro e v9 ⟨rfl, rfl⟩
              go_wp2_with fail
              refine (noq_List  (.inl rfl)).mono ?_
              rintro e v9 ⟨rfl, rfl⟩
              go_wp2_with fail
              refine (noq_List  HZ5.out).mono ?_
              rintro e v9 ⟨rfl, rfl⟩
              go_wp2_with fail
              refine (noq_Of 0 (.inl rfl)).mono ?_
              rintro e v9 ⟨rfl, rfl⟩
              go_wp2_with fail
              refine (law33_works _).mono ?_
              rintro e v9 ⟨rfl, hb⟩
              have HF := Lib.hid (bel_trans HW5.out hb)
              clear hb
              go_wp2_with fail
              go_ret
              exact ⟨rfl, HF.out⟩
end Go.Proofs.Ytdhcmnbajkpjiaa
/-
  Openers for slices whose elements are rows of ints (arrays, structs, nested ones).
-/
namespace Go.Proofs.Ytdhcmnbajkpjiaa.Fr
open Go.ChangeShapes Go.WideShapes Go.ChangeAt Go.RowKit Go.Deep

section
variable {H : Type} {enc : TypeId × Value → H} {P : Program} {w : World}

/-- A type whose cells are S ints. -/
def FlatInt {H : Type} (enc : TypeId × Value → H) (P : Program) (w : World) (sp : Nat → Bool) (e S : Nat) : Prop :=
  ∀ fuel cs x, DataW.trod enc P w 0 sp true fuel e cs = some x → cs.length = S ∧ ∀ j, j < S → ∃ n : Int, cs[j]? = some (Value.int .i64 n) ∧ -9223372036854775808 ≤ n ∧ n ≤ 9223372036854775807

theorem FlatInt.int {sp : Nat → Bool} {e : Nat} (he : P.underlying e = some (.int .i64)) : FlatInt enc P w sp e 1 := by
  intro fuel cs x h
  obtain ⟨n, rfl, _, hw⟩ := DataW.trod_int he h
  refine ⟨rfl, fun j hj => ?_⟩
  obtain rfl : j = 0 := by omega
  exact ⟨n, rfl, bounds_i64 hw⟩

theorem FlatInt.array {sp : Nat → Bool} {e n it S : Nat} (he : P.underlying e = some (.array n it)) (hi : FlatInt enc P w sp it S) (hS : P.cellsOf it = S) (hc : P.cellsOf e = n * S) (h0 : 0 < S) : FlatInt enc P w sp e (n * S) := by
  intro fuel cs x h
  obtain ⟨xs, m, _, _, hlen, hxl, hg⟩ := DataW.trod_array he h
  refine ⟨hlen.trans hc, fun j hj => ?_⟩
  have hq : j / S < n := Nat.div_lt_of_lt_mul (by rw [Nat.mul_comm]; exact hj)
  have h1 := hg (j / S) hq
  have hx : xs[j / S]? = some (xs[j / S]'(by omega)) := List.getElem?_eq_getElem (by omega)
  rw [hx, hS] at h1
  obtain ⟨_, h2⟩ := hi _ _ _ h1
  obtain ⟨v, hv, hb⟩ := h2 (j % S) (Nat.mod_lt _ h0)
  refine ⟨v, ?_, hb⟩
  rw [List.getElem?_take, if_pos (Nat.mod_lt _ h0), List.getElem?_drop] at hv
  rw [← hv]
  congr 1
  have := Nat.div_add_mod j S
  rw [Nat.mul_comm] at this
  omega

theorem FlatInt.struct {sp : Nat → Bool} {e S : Nat} {fs : Array Field} (he : P.underlying e = some (.struct fs)) (hc : P.cellsOf e = S)
    (hf : ∀ j, j < S → ∃ (i : Nat) (f : Field), fs[i]? = some f ∧ f.offset ≤ j ∧ j < f.offset + P.cellsOf f.type ∧ FlatInt enc P w sp f.type (P.cellsOf f.type)) : FlatInt enc P w sp e S := by
  intro fuel cs x h
  obtain ⟨xs, m, _, _, hlen, hxl, hg⟩ := DataW.trod_struct he h
  refine ⟨hlen.trans hc, fun j hj => ?_⟩
  obtain ⟨i, f, hfi, h1, h2, hfl⟩ := hf j hj
  have hil : i < fs.size := (Array.getElem?_eq_some_iff.1 hfi).1
  have h3 := hg i f hfi
  have hx : xs[i]? = some (xs[i]'(by omega)) := List.getElem?_eq_getElem (by omega)
  rw [hx] at h3
  obtain ⟨_, h4⟩ := hfl _ _ _ h3
  obtain ⟨v, hv, hb⟩ := h4 (j - f.offset) (by omega)
  refine ⟨v, ?_, hb⟩
  rw [List.getElem?_take, if_pos (by omega), List.getElem?_drop] at hv
  rw [← hv]
  congr 1
  omega

/-- What the walk is told of a slice of rows of S ints that came in. -/
def IsRows (w : World) (S : Nat) (a : Option Addr) (len cap : Nat) (F : Nat → Nat → Int) : Prop :=
  (a = none ∧ len = 0 ∧ cap = 0) ∨
  ∃ b off, a = some ⟨b, off, none⟩ ∧ (0 < len → b < w.heap.size) ∧ len ≤ cap ∧ cap ≤ maxLen ∧
    ∀ i, i < cap → ∀ j, j < S → w.cell? ⟨b, off + i * S + j, none⟩ = some (.int .i64 (F i j)) ∧ -9223372036854775808 ≤ F i j ∧ F i j ≤ 9223372036854775807

theorem open_rows {t e S : Nat} {a : Option Addr} {len cap : Nat} {d : DataW H} {ps : List MemPlace} {base : Nat} (ht : P.underlying t = some (.slice e)) (hS : P.cellsOf e = S) (h0 : 0 < S)
    (hfl : FlatInt enc P w (fun _ => true) e S)
    (h : DataW.Trod enc P w 0 (fun _ => true) true t (.slice a len cap) d ps) (hv : Value.okWide P w .any base t (.slice a len cap)) : ∃ F, IsRows w S a len cap F := by
  obtain ⟨fuel, hf⟩ := h
  rcases open_slice ht hf with ⟨hcs, _⟩ | ⟨x, l, c, m, n, D, Pl, hcs, hb, hl, hm, hmm, hx, hi⟩
  · simp [Value.cells] at hcs
    obtain ⟨rfl, rfl, rfl⟩ := hcs
    exact ⟨fun _ _ => 0, .inl ⟨rfl, rfl, rfl⟩⟩
  · simp [Value.cells] at hcs
    obtain ⟨rfl, rfl, rfl⟩ := hcs
    simp only [if_true] at hmm
    subst hmm
    have hsp : x.spot = none := by
      unfold Value.okWide at hv
      rw [ht] at hv
      simp only at hv
      unfold Cell.okWide at hv
      rw [ht] at hv
      simp only at hv
      unfold Cell.ok at hv
      rw [ht] at hv
      simp only at hv
      exact hv.2.2.2.1
    obtain ⟨b, off, spot⟩ := x
    simp only at hsp
    subst hsp
    have key : ∀ i j, i < m → j < S → ∃ v : Int, w.cell? ⟨b, off + i * S + j, none⟩ = some (.int .i64 v) ∧ -9223372036854775808 ≤ v ∧ v ≤ 9223372036854775807 := by
      intro i j him hjS
      obtain ⟨cs', hc, ht'⟩ := hi i him
      rw [hS] at hc
      obtain ⟨hlen, hfj⟩ := hfl _ _ _ ht'
      obtain ⟨v, hv', hb'⟩ := hfj j hjS
      obtain ⟨_, _, hat⟩ := World.cells?_some hc
      have hcell := hat j hjS
      refine ⟨v, ?_, hb'⟩
      rw [← hv', ← hcell]
      congr 1
      simp only [Addr.add]
      split <;> split <;> simp_all [Nat.add_assoc]
    refine ⟨fun i j => match w.cell? ⟨b, off + i * S + j, none⟩ with | some (.int _ n) => n | _ => 0, .inr ⟨b, off, rfl, fun hl0 => ?_, hl, hm, fun i him j hjS => ?_⟩⟩
    · obtain ⟨v, hv', _⟩ := key 0 0 (by omega) h0
      exact World.block_lt_of_cell? _ _ hv'
    · obtain ⟨v, hv', hb'⟩ := key i j him hjS
      simp only [hv']
      exact ⟨trivial, hb'⟩
end
end Go.Proofs.Ytdhcmnbajkpjiaa.Fr
/-
  An opener for a slice of bytes.
-/
namespace Go.Proofs.Ytdhcmnbajkpjiaa.Fr
open Go.ChangeShapes Go.WideShapes Go.ChangeAt Go.RowKit Go.Deep

section
variable {H : Type} {enc : TypeId × Value → H} {P : Program} {w : World}
theorem open_bytes {t e : Nat} {a : Option Addr} {len cap : Nat} {d : DataW H} {ps : List MemPlace} {base : Nat} (ht : P.underlying t = some (.slice e)) (he : P.underlying e = some (.int .u8)) (hS : P.cellsOf e = 1)
    (h : DataW.Trod enc P w 0 (fun _ => true) true t (.slice a len cap) d ps) (hv : Value.okWide P w .any base t (.slice a len cap)) : ∃ xs, BytesAt w a len xs := by
  obtain ⟨fuel, hf⟩ := h
  rcases open_slice ht hf with ⟨hcs, _⟩ | ⟨x, l, c, m, n, D, Pl, hcs, hb, hl, hm, hmm, hx, hi⟩
  · simp [Value.cells] at hcs
    obtain ⟨rfl, rfl, rfl⟩ := hcs
    exact ⟨[], rfl, by omega, by simp, fun h => absurd h (by omega)⟩
  · simp [Value.cells] at hcs
    obtain ⟨rfl, rfl, rfl⟩ := hcs
    simp only [if_true] at hmm
    subst hmm
    have hsp : x.spot = none := by
      unfold Value.okWide at hv
      rw [ht] at hv
      simp only at hv
      unfold Cell.okWide at hv
      rw [ht] at hv
      simp only at hv
      unfold Cell.ok at hv
      rw [ht] at hv
      simp only at hv
      exact hv.2.2.2.1
    obtain ⟨b, off, spot⟩ := x
    simp only at hsp
    subst hsp
    have key : ∀ i, i < m → ∃ v : Int, w.cell? ⟨b, off + i, none⟩ = some (.int .u8 v) ∧ 0 ≤ v ∧ v < 256 := by
      intro i him
      obtain ⟨cs', hc, ht'⟩ := hi i him
      rw [hS] at hc
      obtain ⟨n, rfl, _, hw⟩ := DataW.trod_int he ht'
      obtain ⟨_, _, hat⟩ := World.cells?_some hc
      have hcell := hat 0 (by omega)
      refine ⟨n, ?_, ?_⟩
      · have e : w.cell? ⟨b, off + i, none⟩ = [Value.int .u8 n][0]? := by
          rw [← hcell]
          congr 1
          simp only [Addr.add]
          split <;> simp_all
        rw [e]; rfl
      · have := bounds_u8 hw
        omega
    refine ⟨(List.range len).map (fun i => match w.cell? ⟨b, off + i, none⟩ with | some (.int _ n) => n | _ => 0), by simp, by unfold maxLen at hm; omega, ?_, fun hn => ⟨b, off, rfl, ?_, ?_⟩⟩
    · intro y hy
      obtain ⟨i, hi1, rfl⟩ := List.mem_map.1 hy
      obtain ⟨v, hv', hb'⟩ := key i (by have := List.mem_range.1 hi1; omega)
      simp only [hv']
      exact hb'
    · obtain ⟨v, hv', _⟩ := key 0 (by omega)
      exact World.block_lt_of_cell? _ _ hv'
    · intro i hil
      obtain ⟨v, hv', hb'⟩ := key i (by omega)
      simp [List.getD, hil, hv']
end
end Go.Proofs.Ytdhcmnbajkpjiaa.Fr
