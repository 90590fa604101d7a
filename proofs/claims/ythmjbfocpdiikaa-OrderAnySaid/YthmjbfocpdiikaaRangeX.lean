/-
  A range over a function whose body always goes on, where the iterator writes cells of its own between the rounds.
-/
import Derived.RangeFuncNested
import Derived.RangeFuncBound
import Derived.RangeFuncCalls
import Derived.RangeFuncLeaves
import Derived.WalkKit
import Derived.OwnWalkIn
import Derived.TacticsInMore
import Derived.LoopNIn
import Derived.LoopIn
import Derived.Test.YthmjbfocpdiikaaBase
namespace Go.Proofs.Ythmjbfocpdiikaa
open Go.RowKit
set_option linter.unusedVariables false

/-- How a round's body is left. -/
def goesOn {α : Type} (L : Nat) (Kp : World → World → Prop) (I : List α → World → Prop) (xs : List α) (W : World) : Exit → Act → World → Prop
  | .normal, _, W' => W'.heap[L]? = W.heap[L]? ∧ W'.heap[L + 1]? = W.heap[L + 1]? ∧ Kp W W' ∧ I xs W'
  | _, _, _ => False

/-- What an iterator gives: for every J that its own steps leave, and that each round leads on. -/
def IterGives {α : Type} (P : Program) (gf : Nat) (lb : Array Value) (encs : α → Array Value) (Own : Nat → Prop) (Kp : World → World → Prop) (S : List α → Prop) (l sz N : Nat) (W : World) : Prop :=
  ∀ J : List α → World → Prop, (∀ s A B row, J s A → A.grownBy B row → (∀ r, row = some r → Own r) → J s B) →
    (∀ pre x W1, J pre W1 → sz ≤ W1.heap.size → pre.length < N → ∀ m, YieldAt Fence.wide m P l (encs x) W1 fun e W' => e = .returned (.bool true) ∧ J (pre ++ [x]) W' ∧ Kp W1 W') → J [] W →
    Calls P gf (#[.func (.yield l) #[] #[]] ++ lb) W fun e W' => (∃ v, e = .returned v) ∧ ∃ xs, S xs ∧ J xs W'

theorem range_plain {P : Program} {α : Type} {g : Operand} {ps : Array Tmp} {assign body : Code} {Q : Exit → Act → World → Prop} {a : Act} {w : World} {n : Nat} {gf : Nat} {lb : Array Value}
    (hg : a.eval g = .func (.func gf) #[] lb) (eg : ∀ args w, (callFunc gf args).run P w = .ok (.enter gf args) w) {encs : α → Array Value} (hps : ∀ x, (encs x).size = ps.size)
    (I : List α → World → Prop) (Kp : World → World → Prop) (S : List α → Prop) (Own : Nat → Prop) (sz N : Nat)
    (hI : ∀ s A B row, I s A → A.grownBy B row → (∀ r, row = some r → Own r) → I s B) (hO : ¬ Own w.heap.size) (hO1 : ¬ Own (w.heap.size + 1))
    (hIput : ∀ s A o, I s A → w.heap.size + 1 < A.heap.size → I s (A.putObj (w.heap.size + 1) o)) (hKput : ∀ A o, w.heap.size + 1 < A.heap.size → Kp A (A.putObj (w.heap.size + 1) o)) (hKt : ∀ A B C, Kp A B → Kp B C → Kp A C)
    (h0 : ∀ o, I [] ((w.alloc (.deferred (some []))).alloc o))
    (hseq : ∀ o, IterGives P gf lb encs Own Kp S (w.heap.size + 1) sz N ((w.alloc (.deferred (some []))).alloc o)) (a₁ : α → Act)
    (hassign : ∀ (l m : Nat) (x : α) (W : World) (K : Act → World → Prop), K (a₁ x) W →
      assign.wpIn (Fence.wide.inRound l) m P (Exit.then K (fun _ _ _ => False)) { tmps := (ps.zip (encs x)).foldl (fun t (p, v) => t.setIfInBounds p v) a.tmps, defers := [] } W)
    (hbody : ∀ (l m : Nat) (pre : List α) (x : α) (W : World), I pre W → w.heap.size + 1 < W.heap.size → sz ≤ W.heap.size → pre.length < N → body.wpIn (Fence.wide.inRound l) m P (goesOn w.heap.size Kp I (pre ++ [x]) W) (a₁ x) W)
    (hdone : ∀ (xs : List α) (W : World), S xs → I xs W → W.heap[w.heap.size]? = some (.deferred (some [])) → Q .normal { a with defers := { target := .collected w.heap.size, args := #[] } :: a.defers } W) :
    (Code.rangeFunc g ps assign body).wpIn Fence.wide n P Q a w := by
  refine wpIn_rangeFunc ?_
  intro fn hfn
  have hro : Fence.wide.round = none := rfl
  rw [hro]
  obtain ⟨rec, hrec⟩ : ∃ rec : LoopState → Loop, rec = fun st => { state := st, pending := none, fn, tmps := a.tmps, params := ps, assign, body, defers := w.heap.size } := ⟨_, rfl⟩
  have hres : ∀ st, (rec st).state = st := fun st => by rw [hrec]
  obtain ⟨W1, hW1⟩ : ∃ W1, (w.alloc (.deferred (some []))).alloc (.loop (rec .ready)) = W1 := ⟨_, rfl⟩
  have hL1 : W1.heap[w.heap.size + 1]? = some (.loop (rec .ready)) := by
    rw [← hW1]; have := World.alloc_heap_new (w.alloc (.deferred (some []))) (.loop (rec .ready)); rwa [World.size_alloc] at this
  have hK1 : W1.heap[w.heap.size]? = some (.deferred (some [])) := by
    rw [← hW1]; exact (Below.heap_alloc _ _ _ (by simp)).trans (World.alloc_heap_new w _)
  have hI1 : I [] W1 := by rw [← hW1]; exact h0 _
  have hcall := hseq (.loop (rec .ready))
  rw [hW1] at hcall
  refine ⟨w.heap.size + 1, [{ target := .collected w.heap.size, args := #[] }], W1, { target := .fn (.func gf) lb, args := #[.func (.yield (w.heap.size + 1)) #[] #[]] }, W1, gf,
    #[.func (.yield (w.heap.size + 1)) #[] #[]] ++ lb, W1, ?_, ?_, ?_, ?_, fun h => by simp [Fence.wide] at h, callsIn_wide.2 ?_⟩
  · rw [← hW1, hrec]; exact run_enterLoop_outer _ _ _ _ _
  · simp only [resolve, hg]
    simp [go_sem]
  · intro f' hf'; trivial
  · simp [invoke, go_sem, eg]
  have keepL : ∀ {A B : World} {row : Option Nat} {k : Nat} {o : Obj}, A.grownBy B row → (∀ r, row = some r → Own r) → ¬ Own k → A.heap[k]? = some o → B.heap[k]? = some o := fun {A B row k o} hg hr hk ho =>
    (hg.block k (Array.getElem?_eq_some_iff.1 ho).1 (fun e => hk (hr k e.symm))).trans ho
  refine (hcall (fun pre W => I pre W ∧ W.heap[w.heap.size + 1]? = some (.loop (rec .ready)) ∧ W.heap[w.heap.size]? = some (.deferred (some [])))
    (fun s A B row hs hg' hr => ⟨hI s A B row hs.1 hg' hr, keepL hg' hr hO1 hs.2.1, keepL hg' hr hO hs.2.2⟩) ?_ ⟨hI1, hL1, hK1⟩).mono ?_
  · rintro pre x W ⟨hi, hl, hk⟩ hsz hN m
    have hlt : w.heap.size + 1 < W.heap.size := (Array.getElem?_eq_some_iff.1 hl).1
    have hy := run_yield (P := P) (args := encs x) hl (by rw [hrec]; exact hps x)
    rw [hrec] at hy
    refine ⟨fn, _, assign, body, hy, roundIn_of_wpIn trivial (hassign _ m x W _ ⟨_, run_beginRound hl (hres _), ?_⟩)⟩
    obtain ⟨W2, hW2⟩ : ∃ W2, W.putObj (w.heap.size + 1) (.loop { rec .ready with state := .busy }) = W2 := ⟨_, rfl⟩
    rw [hW2]
    have hl2 : W2.heap[w.heap.size + 1]? = some (.loop { rec .ready with state := .busy }) := by rw [← hW2]; exact World.putObj_heap_same hlt
    have hk2 : W2.heap[w.heap.size]? = some (.deferred (some [])) := by rw [← hW2]; exact (World.putObj_heap_other (by omega)).trans hk
    have hi2 : I pre W2 := by rw [← hW2]; exact hIput _ _ _ hi hlt
    have hw2 : Kp W W2 := by rw [← hW2]; exact hKput _ _ hlt
    refine wpIn_mono (hbody _ m pre x W2 hi2 (Array.getElem?_eq_some_iff.1 hl2).1 (by rw [← hW2]; simpa using hsz) hN) ?_
    rintro e a3 W3 hp
    cases e with
    | normal =>
      obtain ⟨d0, d1, hkp3, hi3⟩ := hp
      have hl3 := d1.trans hl2
      have hlt3 := (Array.getElem?_eq_some_iff.1 hl3).1
      have hr := run_endRound (P := P) none hl3
      refine ⟨_, _, hr, rfl, ⟨hIput _ _ _ hi3 hlt3, ?_, (World.putObj_heap_other (by omega)).trans (d0.trans hk2)⟩, hKt _ _ _ (hKt _ _ _ hw2 hkp3) (hKput _ _ hlt3)⟩
      rw [World.putObj_heap_same hlt3]
      simp [hrec]
    | ret => exact hp.elim
    | exit id => exact hp.elim
    | goto t => exact hp.elim
    | panic ch => exact hp.elim
    | outgrown => exact hp.elim
  · rintro e W2 ⟨⟨v, rfl⟩, xs, hS, hi, hl, hk⟩
    have hlt := (Array.getElem?_eq_some_iff.1 hl).1
    exact ⟨none, _, by have := run_endLoop (P := P) hl (by rw [hres]; simp); rw [hrec] at this; exact this, hdone xs _ hS (hIput _ _ _ hi hlt) ((World.putObj_heap_other (by omega)).trans hk)⟩
end Go.Proofs.Ythmjbfocpdiikaa
