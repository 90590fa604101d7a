/- Part 8 of the proof of RegionStale: lemmas, each with its conditions ahead of it. -/
import Derived.Test.YtdhcmnbajkpjiaaPartRegionStale3
import Derived.Test.YtdhcmnbajkpjiaaPartRegionStale7
import Derived.RangeFuncNested
import Derived.RangeFuncBound
import Derived.RangeFuncCalls
import Derived.RangeFuncLeaves
import Derived.WalkKit
import Derived.OwnWalkIn
import Derived.TacticsInMore
import Derived.LoopNIn
import Derived.LoopIn
import Derived.Test.YtdhcmnbajkpjiaaPartRegionStale2
import Derived.Test.YtdhcmnbajkpjiaaPartRegionStale1
import Derived.ScopeJumps
import Derived.Test.YtdhcmnbajkpjiaaPartRegionStale5
/-
  The trees of a forest in plain Lean: both orders, what is above a node, and the order of a forest's places.
-/
namespace Go.Proofs.Ytdhcmnbajkpjiaa
set_option linter.unusedVariables false
set_option linter.unusedSimpArgs false
namespace PW
variable {kid : Nat → List Nat} {rk : Nat → Nat}
/-- The events of a subtree, within a height. -/
def evK (kid : Nat → List Nat) : Nat → Nat → List (Nat × Bool)
  | 0, _ => []
  | k + 1, x => (x, true) :: ((kid x).flatMap (evK kid k) ++ [(x, false)])
theorem flat_congr {α β : Type} {f g : α → List β} : ∀ {l : List α}, (∀ x ∈ l, f x = g x) → l.flatMap f = l.flatMap g
  | [], _ => rfl
  | a :: l, h => by rw [List.flatMap_cons, List.flatMap_cons, h a (by simp), flat_congr (fun x hx => h x (by simp [hx]))]
theorem evK_eq (h : ∀ x c, c ∈ kid x → rk c < rk x) : ∀ k k' x, rk x < k → rk x < k' → evK kid k x = evK kid k' x
  | 0, _, _, h1, _ => absurd h1 (by omega)
  | _, 0, _, _, h2 => absurd h2 (by omega)
  | k + 1, k' + 1, x, h1, h2 => by
    show _ :: (_ ++ _) = _ :: (_ ++ _)
    rw [flat_congr (fun c hc => evK_eq h k k' c (by have := h x c hc; omega) (by have := h x c hc; omega))]
def ev (kid : Nat → List Nat) (rk : Nat → Nat) (x : Nat) : List (Nat × Bool) := evK kid (rk x + 1) x
theorem ev_eq (h : ∀ x c, c ∈ kid x → rk c < rk x) (x : Nat) : ev kid rk x = (x, true) :: ((kid x).flatMap (ev kid rk) ++ [(x, false)]) := by
  show (x, true) :: (_ ++ _) = _
  rw [flat_congr (fun c hc => evK_eq h (rk x) (rk c + 1) c (h x c hc) (by omega))]
  rfl
def pick (b : Bool) (l : List (Nat × Bool)) : List Nat := (l.filter (fun e => e.2 == b)).map Prod.fst
theorem pick_nil (b : Bool) : pick b [] = [] := rfl
theorem pick_app (b : Bool) (l m : List (Nat × Bool)) : pick b (l ++ m) = pick b l ++ pick b m := by unfold pick; rw [List.filter_append, List.map_append]
theorem pick_cons (b : Bool) (e : Nat × Bool) (l : List (Nat × Bool)) : pick b (e :: l) = (if e.2 = b then [e.1] else []) ++ pick b l := by
  rw [← List.singleton_append, pick_app]
  congr 1
  unfold pick
  by_cases h : e.2 = b
  · simp [h]
  · simp [h]
theorem pick_flat (b : Bool) (f : Nat → List (Nat × Bool)) : ∀ l : List Nat, pick b (l.flatMap f) = l.flatMap (fun x => pick b (f x))
  | [] => rfl
  | a :: l => by rw [List.flatMap_cons, List.flatMap_cons, pick_app, pick_flat b f l]
def pre (kid : Nat → List Nat) (rk : Nat → Nat) (x : Nat) : List Nat := pick true (ev kid rk x)
def post (kid : Nat → List Nat) (rk : Nat → Nat) (x : Nat) : List Nat := pick false (ev kid rk x)
theorem pre_eq (h : ∀ x c, c ∈ kid x → rk c < rk x) (x : Nat) : pre kid rk x = x :: (kid x).flatMap (pre kid rk) := by
  unfold pre
  rw [ev_eq h, pick_cons, pick_app, pick_flat, pick_cons]
  simp [pick_nil]
theorem post_eq (h : ∀ x c, c ∈ kid x → rk c < rk x) (x : Nat) : post kid rk x = (kid x).flatMap (post kid rk) ++ [x] := by
  unfold post
  rw [ev_eq h, pick_cons, pick_app, pick_flat, pick_cons]
  simp [pick_nil]
/-- A proof over all subtrees: a node, and the trees of a list of nodes. -/
theorem induct (h : ∀ x c, c ∈ kid x → rk c < rk x) {M : Nat → Prop} (hM : ∀ x, (∀ c ∈ kid x, M c) → M x) (x : Nat) : M x := by
  have : ∀ k x, rk x < k → M x := fun k => by
    induction k with
    | zero => intro x hx; exact absurd hx (by omega)
    | succ k ih => intro x hx; exact hM x (fun c hc => ih c (by have := h x c hc; omega))
  exact this _ x (Nat.lt_succ_self _)
theorem mem_post (h : ∀ x c, c ∈ kid x → rk c < rk x) (x : Nat) : ∀ z, z ∈ post kid rk x ↔ z ∈ pre kid rk x := by
  refine induct h (M := fun x => ∀ z, z ∈ post kid rk x ↔ z ∈ pre kid rk x) (fun x ih z => ?_) x
  rw [pre_eq h, post_eq h]
  simp only [List.mem_append, List.mem_cons, List.mem_flatMap, List.not_mem_nil, or_false]
  rw [or_comm]
  refine or_congr Iff.rfl (exists_congr fun c => and_congr_right fun hc => ih c hc z)
theorem len_post (h : ∀ x c, c ∈ kid x → rk c < rk x) (x : Nat) : (post kid rk x).length = (pre kid rk x).length := by
  refine induct h (M := fun x => (post kid rk x).length = (pre kid rk x).length) (fun x ih => ?_) x
  rw [pre_eq h, post_eq h, List.length_append, List.length_cons]
  have : ∀ l : List Nat, (∀ c ∈ l, (post kid rk c).length = (pre kid rk c).length) → (l.flatMap (post kid rk)).length = (l.flatMap (pre kid rk)).length := fun l => by
    induction l with
    | nil => intro _; rfl
    | cons a l ihl => intro hl; rw [List.flatMap_cons, List.flatMap_cons, List.length_append, List.length_append, hl a (by simp), ihl (fun c hc => hl c (by simp [hc]))]
  rw [this _ ih]; rfl
/-- The reference's search: the first that is not told yet, whose children all are. -/
def ok (kid : Nat → List Nat) (out : List Nat) (x : Nat) : Bool := decide (x ∉ out) && (kid x).all (fun c => decide (c ∈ out))
theorem find_skip {out : List Nat} : ∀ {l : List Nat}, (∀ z ∈ l, z ∈ out) → l.find? (ok kid out) = none
  | [], _ => rfl
  | a :: l, h => by
    rw [List.find?_cons_of_neg (by unfold ok; simp [h a (by simp)]), find_skip (fun z hz => h z (by simp [hz]))]
theorem app_split {α : Type} {A B a b : List α} {y : α} (e : A ++ B = a ++ y :: b) : (∃ b', A = a ++ y :: b' ∧ b = b' ++ B) ∨ (∃ a', a = A ++ a' ∧ B = a' ++ y :: b) := by
  rcases List.append_eq_append_iff.1 e with ⟨a', h1, h2⟩ | ⟨c, h1, h2⟩
  · exact .inr ⟨a', h1, h2⟩
  · cases c with
    | nil => exact .inr ⟨[], by simpa using h1.symm, by simpa using h2.symm⟩
    | cons d c =>
      rw [List.cons_append] at h2
      injection h2 with h3 h4
      subst h3
      exact .inl ⟨c, h1, h4⟩
theorem find_post (h : ∀ x c, c ∈ kid x → rk c < rk x) (x : Nat) : ∀ (out a b : List Nat) (y : Nat), post kid rk x = a ++ y :: b → (∀ z ∈ a, z ∈ out) → (∀ z ∈ y :: b, z ∉ out) → (pre kid rk x).find? (ok kid out) = some y := by
  refine induct h (M := fun x => ∀ (out a b : List Nat) (y : Nat), post kid rk x = a ++ y :: b → (∀ z ∈ a, z ∈ out) → (∀ z ∈ y :: b, z ∉ out) → (pre kid rk x).find? (ok kid out) = some y) (fun x ih out a b y he ha hb => ?_) x
  have hl : ∀ l : List Nat, (∀ c ∈ l, c ∈ kid x) → ∀ (a b : List Nat), l.flatMap (post kid rk) = a ++ y :: b → (∀ z ∈ a, z ∈ out) → (∀ z ∈ y :: b, z ∉ out) → (l.flatMap (pre kid rk)).find? (ok kid out) = some y := fun l => by
    induction l with
    | nil => intro _ a b he; simp at he
    | cons c l ihl =>
      intro hc a b he ha hb
      rw [List.flatMap_cons] at he ⊢
      rw [List.find?_append]
      rcases app_split he with ⟨b', h1, h2⟩ | ⟨a', h1, h2⟩
      · rw [ih c (hc c (by simp)) out a b' y h1 ha (fun z hz => hb z (by rw [h2]; simp at hz ⊢; rcases hz with hz | hz <;> simp [hz]))]; rfl
      · rw [find_skip (fun z hz => ha z (by rw [h1, List.mem_append]; exact .inl ((mem_post h c z).2 hz)))]
        exact ihl (fun d hd => hc d (by simp [hd])) a' b h2 (fun z hz => ha z (by rw [h1]; simp [hz])) hb
  rw [post_eq h] at he
  rw [pre_eq h]
  rcases app_split he with ⟨b', h1, h2⟩ | ⟨a', h1, h2⟩
  · have hxo : ∃ c ∈ kid x, c ∉ out := by
      have hy : y ∈ (kid x).flatMap (post kid rk) := by rw [h1]; simp
      -- the last of the children's tree that y stands in
      have : ∀ l : List Nat, ∀ (a b : List Nat), l.flatMap (post kid rk) = a ++ y :: b → (∀ z ∈ y :: b, z ∉ out) → ∃ c ∈ l, c ∉ out := fun l => by
        induction l with
        | nil => intro a b he; simp at he
        | cons c l ihl =>
          intro a b he hb
          rw [List.flatMap_cons] at he
          rcases app_split he with ⟨b2, g1, g2⟩ | ⟨a2, g1, g2⟩
          · refine ⟨c, by simp, hb c ?_⟩
            have g3 := post_eq h c
            rw [g1] at g3
            have g4 : c ∈ y :: b2 := by
              have := congrArg List.getLast? g3
              rw [List.getLast?_append, List.getLast?_append] at this
              simp only [List.getLast?_singleton, Option.some_or] at this
              have h5 : (y :: b2).getLast? = some c := by
                cases hq : (y :: b2).getLast? with
                | none => simp at hq
                | some q => rw [hq] at this; simpa using this
              exact List.mem_of_getLast? h5
            rw [g2]; simp at g4 ⊢; rcases g4 with g4 | g4 <;> simp [g4]
          · obtain ⟨d, d1, d2⟩ := ihl a2 b g2 hb
            exact ⟨d, by simp [d1], d2⟩
      exact this _ a b' h1 (fun z hz => hb z (by rw [h2]; simp at hz ⊢; rcases hz with hz | hz <;> simp [hz]))
    obtain ⟨c, hc, hco⟩ := hxo
    rw [List.find?_cons_of_neg (by unfold ok; rw [Bool.and_eq_true]; intro hh; have := List.all_eq_true.1 hh.2 c hc; exact hco (of_decide_eq_true this))]
    exact hl _ (fun c hc => hc) a b' h1 ha (fun z hz => hb z (by rw [h2]; simp at hz ⊢; rcases hz with hz | hz <;> simp [hz]))
  · cases a' with
    | cons d a' => simp at h2
    | nil =>
      simp at h2
      obtain ⟨rfl, rfl⟩ := h2
      refine List.find?_cons_of_pos ?_
      unfold ok
      rw [Bool.and_eq_true]
      refine ⟨decide_eq_true (hb x (by simp)), List.all_eq_true.2 (fun c hc => decide_eq_true (ha c ?_))⟩
      rw [h1, List.append_nil, List.mem_flatMap]
      exact ⟨c, hc, by rw [post_eq h]; simp⟩
/-- What is left to be told: a stack, the last one come to first, and what waits of the last one's children. -/
def rest (kid : Nat → List Nat) (rk : Nat → Nat) (sib : Nat → List Nat) : List Nat → List Nat → List (Nat × Bool)
  | [], _ => []
  | s :: st, todo => todo.flatMap (ev kid rk) ++ (s, false) :: rest kid rk sib st (sib s)
theorem rest_push (h : ∀ x c, c ∈ kid x → rk c < rk x) {sib : Nat → List Nat} {s n : Nat} {st todo : List Nat} (hs : sib n = todo) :
    rest kid rk sib (s :: st) (n :: todo) = (n, true) :: rest kid rk sib (n :: s :: st) (kid n) := by
  show (n :: todo).flatMap _ ++ _ = (n, true) :: ((kid n).flatMap _ ++ (n, false) :: ((sib n).flatMap _ ++ _))
  rw [List.flatMap_cons, ev_eq h, hs]
  simp
theorem rest_pop {sib : Nat → List Nat} {s : Nat} {st : List Nat} : rest kid rk sib (s :: st) [] = (s, false) :: rest kid rk sib st (sib s) := rfl
theorem rest_all (h : ∀ x c, c ∈ kid x → rk c < rk x) {sib : Nat → List Nat} (x : Nat) : ev kid rk x = (x, true) :: rest kid rk sib [x] (kid x) := by
  rw [ev_eq h]; rfl
/-- The reference's walk: what is left stands in a list. -/
theorem pre_step (h : ∀ x c, c ∈ kid x → rk c < rk x) (x : Nat) (l : List Nat) : (x :: l).flatMap (pre kid rk) = x :: (kid x ++ l).flatMap (pre kid rk) := by
  rw [List.flatMap_cons, pre_eq h, List.flatMap_append]; simp
/-- A node, and all above it. -/
def upK (par : Nat → Option Nat) : Nat → Nat → List Nat
  | 0, _ => []
  | k + 1, x => x :: (match par x with | some p => upK par k p | none => [])
def ups (par : Nat → Option Nat) (dp : Nat → Nat) (x : Nat) : List Nat := upK par (dp x + 1) x
/-- A forest: children, parents, a height that falls to the children and a depth that falls to the parents. -/
structure Is (kid : Nat → List Nat) (rk : Nat → Nat) (par : Nat → Option Nat) (dp : Nat → Nat) (N : List Nat) : Prop where
  kp : ∀ x c, c ∈ kid x ↔ c ∈ N ∧ par c = some x
  pi : ∀ c p, c ∈ N → par c = some p → p ∈ N
  hk : ∀ x c, c ∈ kid x → rk c < rk x
  hd : ∀ c p, c ∈ N → par c = some p → dp p < dp c
  nd : ∀ x, (kid x).Nodup
variable {par : Nat → Option Nat} {dp : Nat → Nat} {N : List Nat}
theorem upK_eq (h : Is kid rk par dp N) : ∀ k k' x, x ∈ N → dp x < k → dp x < k' → upK par k x = upK par k' x
  | 0, _, _, _, h1, _ => absurd h1 (by omega)
  | _, 0, _, _, _, h2 => absurd h2 (by omega)
  | k + 1, k' + 1, x, hx, h1, h2 => by
    show x :: _ = x :: _
    cases e : par x with
    | none => rfl
    | some p => simp only []; rw [upK_eq h k k' p (h.pi x p hx e) (by have := h.hd x p hx e; omega) (by have := h.hd x p hx e; omega)]
theorem ups_eq (h : Is kid rk par dp N) {x : Nat} (hx : x ∈ N) : ups par dp x = x :: (match par x with | some p => ups par dp p | none => []) := by
  show x :: _ = _
  cases e : par x with
  | none => rfl
  | some p => simp only []; rw [upK_eq h (dp x) (dp p + 1) p (h.pi x p hx e) (h.hd x p hx e) (by omega)]; rfl
theorem ups_none (h : Is kid rk par dp N) {x : Nat} (hx : x ∈ N) (e : par x = none) : ups par dp x = [x] := by rw [ups_eq h hx, e]
theorem ups_some (h : Is kid rk par dp N) {x p : Nat} (hx : x ∈ N) (e : par x = some p) : ups par dp x = x :: ups par dp p := by rw [ups_eq h hx, e]
/-- A proof over all nodes, each behind its parent. -/
theorem climb (h : Is kid rk par dp N) {M : Nat → Prop} (h0 : ∀ x, x ∈ N → par x = none → M x) (h1 : ∀ x p, x ∈ N → par x = some p → M p → M x) {x : Nat} (hx : x ∈ N) : M x := by
  have : ∀ k x, x ∈ N → dp x < k → M x := fun k => by
    induction k with
    | zero => intro x _ hk; exact absurd hk (by omega)
    | succ k ih =>
      intro x hx hk
      cases e : par x with
      | none => exact h0 x hx e
      | some p => exact h1 x p hx e (ih p (h.pi x p hx e) (by have := h.hd x p hx e; omega))
  exact this _ x hx (Nat.lt_succ_self _)
theorem self_pre (h : Is kid rk par dp N) (x : Nat) : x ∈ pre kid rk x := by rw [pre_eq h.hk]; simp
theorem pre_in (h : Is kid rk par dp N) (x : Nat) : x ∈ N → ∀ z ∈ pre kid rk x, z ∈ N := by
  refine induct h.hk (M := fun x => x ∈ N → ∀ z ∈ pre kid rk x, z ∈ N) (fun x ih hx z hz => ?_) x
  rw [pre_eq h.hk, List.mem_cons, List.mem_flatMap] at hz
  rcases hz with rfl | ⟨c, hc, hz⟩
  · exact hx
  · exact ih c hc ((h.kp x c).1 hc).1 z hz
theorem pre_kid (h : Is kid rk par dp N) {p c : Nat} (hc : c ∈ kid p) (x : Nat) : p ∈ pre kid rk x → c ∈ pre kid rk x := by
  refine induct h.hk (M := fun x => p ∈ pre kid rk x → c ∈ pre kid rk x) (fun x ih hp => ?_) x
  rw [pre_eq h.hk, List.mem_cons, List.mem_flatMap] at hp ⊢
  rcases hp with rfl | ⟨d, hd, hz⟩
  · exact .inr ⟨c, hc, self_pre h c⟩
  · exact .inr ⟨d, hd, ih d hd hz⟩
theorem ups_in (h : Is kid rk par dp N) {x : Nat} (hx : x ∈ N) : ∀ z ∈ ups par dp x, z ∈ N := by
  refine climb h (M := fun x => ∀ z ∈ ups par dp x, z ∈ N) (fun x hx e z hz => ?_) (fun x p hx e ih z hz => ?_) hx
  · rw [ups_none h hx e, List.mem_singleton] at hz; exact hz ▸ hx
  · rw [ups_some h hx e, List.mem_cons] at hz
    rcases hz with rfl | hz
    · exact hx
    · exact ih z hz
theorem ups_par (h : Is kid rk par dp N) {c t : Nat} (e : par c = some t) {x : Nat} (hx : x ∈ N) : c ∈ ups par dp x → t ∈ ups par dp x := by
  refine climb h (M := fun x => c ∈ ups par dp x → t ∈ ups par dp x) (fun x hx e2 hc => ?_) (fun x p hx e2 ih hc => ?_) hx
  · rw [ups_none h hx e2, List.mem_singleton] at hc; subst hc; rw [e] at e2; exact absurd e2 (by simp)
  · rw [ups_some h hx e2, List.mem_cons] at hc ⊢
    rcases hc with rfl | hc
    · rw [e] at e2; injection e2 with e2; subst e2
      exact .inr (by rw [ups_eq h (h.pi _ _ hx e)]; simp)
    · exact .inr (ih hc)
theorem self_ups (h : Is kid rk par dp N) {x : Nat} (hx : x ∈ N) : x ∈ ups par dp x := by rw [ups_eq h hx]; simp
/-- A node is in a subtree if the subtree's root is the node, or above it. -/
theorem within (h : Is kid rk par dp N) {z : Nat} (hz : z ∈ N) {x : Nat} (hx : x ∈ N) : z ∈ pre kid rk x ↔ x ∈ ups par dp z := by
  constructor
  · refine induct h.hk (M := fun x => z ∈ pre kid rk x → x ∈ ups par dp z) (fun x ih hzx => ?_) x
    rw [pre_eq h.hk, List.mem_cons, List.mem_flatMap] at hzx
    rcases hzx with rfl | ⟨c, hc, hzc⟩
    · exact self_ups h hz
    · exact ups_par h ((h.kp _ _).1 hc).2 hz (ih c hc hzc)
  · refine climb h (M := fun z => x ∈ ups par dp z → z ∈ pre kid rk x) (fun z hz e hm => ?_) (fun z p hz e ih hm => ?_) hz
    · rw [ups_none h hz e, List.mem_singleton] at hm; subst hm; exact self_pre h _
    · rw [ups_some h hz e, List.mem_cons] at hm
      rcases hm with rfl | hm
      · exact self_pre h _
      · exact pre_kid h ((h.kp p z).2 ⟨hz, e⟩) x (ih hm)
theorem ups_dp (h : Is kid rk par dp N) {x : Nat} (hx : x ∈ N) : ∀ z ∈ ups par dp x, dp z ≤ dp x := by
  refine climb h (M := fun x => ∀ z ∈ ups par dp x, dp z ≤ dp x) (fun x hx e z hz => ?_) (fun x p hx e ih z hz => ?_) hx
  · rw [ups_none h hx e, List.mem_singleton] at hz; rw [hz]; exact Nat.le_refl _
  · rw [ups_some h hx e, List.mem_cons] at hz
    rcases hz with rfl | hz
    · exact Nat.le_refl _
    · have := ih z hz; have := h.hd x p hx e; omega
theorem ups_nodup (h : Is kid rk par dp N) {x : Nat} (hx : x ∈ N) : (ups par dp x).Nodup := by
  refine climb h (M := fun x => (ups par dp x).Nodup) (fun x hx e => ?_) (fun x p hx e ih => ?_) hx
  · rw [ups_none h hx e]; simp
  · rw [ups_some h hx e, List.nodup_cons]
    refine ⟨fun hm => ?_, ih⟩
    have := ups_dp h (h.pi x p hx e) x hm
    have := h.hd x p hx e
    omega
/-- Of two nodes on one way up, one is on the other's way. -/
theorem ups_two (h : Is kid rk par dp N) {a b : Nat} {z : Nat} (hz : z ∈ N) : a ∈ ups par dp z → b ∈ ups par dp z → a ∈ ups par dp b ∨ b ∈ ups par dp a := by
  refine climb h (M := fun z => a ∈ ups par dp z → b ∈ ups par dp z → a ∈ ups par dp b ∨ b ∈ ups par dp a) (fun z hz e ha hb => ?_) (fun z p hz e ih ha hb => ?_) hz
  · rw [ups_none h hz e, List.mem_singleton] at ha hb; subst ha; subst hb; exact .inl (self_ups h hz)
  · have ha' := ha; have hb' := hb
    rw [ups_some h hz e, List.mem_cons] at ha hb
    rcases ha with rfl | ha
    · exact .inr hb'
    · rcases hb with rfl | hb
      · exact .inl ha'
      · exact ih ha hb
/-- The trees of a node's children are apart. -/
theorem kids_apart (h : Is kid rk par dp N) {x c d z : Nat} (hc : c ∈ kid x) (hd : d ∈ kid x) (h1 : z ∈ pre kid rk c) (h2 : z ∈ pre kid rk d) : c = d := by
  have c1 := (h.kp x c).1 hc
  have d1 := (h.kp x d).1 hd
  have hz := pre_in h c c1.1 z h1
  have key : ∀ c d : Nat, c ∈ kid x → d ∈ kid x → c ∈ ups par dp d → c = d := fun c d hc hd hm => by
    have c1 := (h.kp x c).1 hc
    have d1 := (h.kp x d).1 hd
    rw [ups_some h d1.1 d1.2, List.mem_cons] at hm
    rcases hm with e | hm
    · exact e
    · have := ups_dp h (h.pi d x d1.1 d1.2) c hm
      have := h.hd c x c1.1 c1.2
      omega
  rcases ups_two h hz ((within h hz c1.1).1 h1) ((within h hz d1.1).1 h2) with hm | hm
  · exact key c d hc hd hm
  · exact (key d c hd hc hm).symm
theorem flat_nodup {f : Nat → List Nat} : ∀ {l : List Nat}, l.Nodup → (∀ c ∈ l, (f c).Nodup) → (∀ c ∈ l, ∀ d ∈ l, ∀ z, z ∈ f c → z ∈ f d → c = d) → (l.flatMap f).Nodup
  | [], _, _, _ => List.nodup_nil
  | a :: l, h0, h1, h2 => by
    rw [List.nodup_cons] at h0
    rw [List.flatMap_cons, List.nodup_append]
    refine ⟨h1 a (by simp), flat_nodup h0.2 (fun c hc => h1 c (by simp [hc])) (fun c hc d hd => h2 c (by simp [hc]) d (by simp [hd])), fun x hx y hy e => ?_⟩
    subst e
    obtain ⟨d, hd, hy⟩ := List.mem_flatMap.1 hy
    exact h0.1 (h2 a (by simp) d (by simp [hd]) x hx hy ▸ hd)
theorem pre_nodup (h : Is kid rk par dp N) (x : Nat) : (pre kid rk x).Nodup := by
  refine induct h.hk (M := fun x => (pre kid rk x).Nodup) (fun x ih => ?_) x
  rw [pre_eq h.hk, List.nodup_cons]
  refine ⟨fun hm => ?_, flat_nodup (h.nd x) ih (fun c hc d hd z hz hz2 => kids_apart h hc hd hz hz2)⟩
  obtain ⟨c, hc, hm⟩ := List.mem_flatMap.1 hm
  have c1 := (h.kp x c).1 hc
  have hx := h.pi c x c1.1 c1.2
  have := ups_dp h hx c ((within h hx c1.1).1 hm)
  have := h.hd c x c1.1 c1.2
  omega
theorem post_nodup (h : Is kid rk par dp N) (x : Nat) : (post kid rk x).Nodup := by
  refine induct h.hk (M := fun x => (post kid rk x).Nodup) (fun x ih => ?_) x
  rw [post_eq h.hk, List.nodup_append]
  refine ⟨flat_nodup (h.nd x) ih (fun c hc d hd z hz hz2 => kids_apart h hc hd ((mem_post h.hk c z).1 hz) ((mem_post h.hk d z).1 hz2)), by simp, fun a ha b hb e => ?_⟩
  rw [List.mem_singleton] at hb
  subst hb; subst e
  obtain ⟨c, hc, hm⟩ := List.mem_flatMap.1 ha
  have h1 := pre_nodup h a
  rw [pre_eq h.hk, List.nodup_cons] at h1
  exact h1.1 (List.mem_flatMap.2 ⟨c, hc, (mem_post h.hk c a).1 hm⟩)
theorem pre_len (h : Is kid rk par dp N) {x : Nat} (hx : x ∈ N) : (pre kid rk x).length ≤ N.length :=
  List.Nodup.length_le_of_subset (pre_nodup h x) (fun z hz => pre_in h x hx z hz)
theorem ups_len (h : Is kid rk par dp N) {x : Nat} (hx : x ∈ N) : (ups par dp x).length ≤ N.length :=
  List.Nodup.length_le_of_subset (ups_nodup h hx) (fun z hz => ups_in h hx z hz)
/-- The top of a node. -/
def top (par : Nat → Option Nat) (dp : Nat → Nat) (x : Nat) : Nat := (ups par dp x).getLastD 0
end PW
variable {n : Nat} {S : FSt}
/-- A forest's nodes, in the order in which they came, and the places' parents: each parent came ahead. -/
structure Ord (N : List Nat) (up : List Int) : Prop where
  nd : N.Nodup
  pa : ∀ x, x ∈ N → up.getD x 0 = -1 ∨ ∃ p, p ∈ N ∧ up.getD x 0 = ((p : Nat) : Int)
  pw : N.Pairwise (fun a b => up.getD a 0 ≠ ((b : Nat) : Int))
  ne : ∀ x, x ∈ N → up.getD x 0 ≠ ((x : Nat) : Int)
variable {N : List Nat} {up : List Int}
theorem Ord.none (up : List Int) : Ord [] up := ⟨List.nodup_nil, fun x hx => absurd hx (by simp), List.Pairwise.nil, fun x hx => absurd hx (by simp)⟩
theorem Ord.lt (h : Ord N up) {x p : Nat} (hx : x ∈ N) (e : up.getD x 0 = ((p : Nat) : Int)) : p ∈ N ∧ N.idxOf p < N.idxOf x := by
  have hp : p ∈ N := by
    rcases h.pa x hx with h1 | ⟨q, hq, h1⟩
    · omega
    · have : q = p := by omega
      exact this ▸ hq
  refine ⟨hp, ?_⟩
  have hi := List.idxOf_lt_length_iff.2 hx
  have hj := List.idxOf_lt_length_iff.2 hp
  rcases Nat.lt_trichotomy (N.idxOf p) (N.idxOf x) with h1 | h1 | h1
  · exact h1
  · have : N[N.idxOf x]'hi = N[N.idxOf p]'hj := by simp only [h1]
    rw [List.getElem_idxOf, List.getElem_idxOf] at this
    exact absurd e (by rw [← this]; exact h.ne x hx)
  · have := List.pairwise_iff_getElem.1 h.pw _ _ hi hj h1
    rw [List.getElem_idxOf, List.getElem_idxOf] at this
    exact absurd e this
def childW (N : List Nat) (up : List Int) (i : Nat) : List Nat := childN N up (i : Int)
def rkW (N : List Nat) (x : Nat) : Nat := N.length - N.idxOf x
def parW (up : List Int) (x : Nat) : Option Nat := if 0 ≤ up.getD x 0 then some (up.getD x 0).toNat else none
def dpW (N : List Nat) (x : Nat) : Nat := N.idxOf x
theorem parW_some {x p : Nat} : parW up x = some p ↔ up.getD x 0 = ((p : Nat) : Int) := by
  unfold parW
  constructor
  · intro h; split at h
    · injection h with h; omega
    · exact absurd h (by simp)
  · intro h; rw [if_pos (by omega), h]; simp
theorem Ord.is (h : Ord N up) : PW.Is (childW N up) (rkW N) (parW up) (dpW N) N := by
  have hc : ∀ x c, c ∈ childW N up x ↔ c ∈ N ∧ parW up c = some x := fun x c => by
    unfold childW childN
    rw [List.mem_filter, parW_some, decide_eq_true_eq]
  refine ⟨hc, fun c p h1 h2 => (h.lt h1 (parW_some.1 h2)).1, fun x c h1 => ?_, fun c p h1 h2 => (h.lt h1 (parW_some.1 h2)).2, fun x => h.nd.filter _⟩
  have h2 := (hc x c).1 h1
  have h3 := (h.lt h2.1 (parW_some.1 h2.2)).2
  have h4 := List.idxOf_lt_length_iff.2 h2.1
  unfold rkW
  omega
theorem Ord.add (h : Ord N up) {p : Nat} {q : Int} (hp : p ∉ N) (hl : p < up.length) (hq : q = -1 ∨ ∃ i, i ∈ N ∧ q = ((i : Nat) : Int)) : Ord (N ++ [p]) (up.set p q) := by
  have e0 : ∀ x, x ∈ N → (up.set p q).getD x 0 = up.getD x 0 := fun x hx => by rw [getD_setI hl, if_neg (fun (e : x = p) => hp (e ▸ hx))]
  have e1 : (up.set p q).getD p 0 = q := by rw [getD_setI hl, if_pos rfl]
  have hpx : ∀ x, x ∈ N → up.getD x 0 ≠ ((p : Nat) : Int) := fun x hx e => hp (h.lt hx e).1
  refine ⟨?_, fun x hx => ?_, ?_, fun x hx => ?_⟩
  · rw [List.nodup_append]
    exact ⟨h.nd, by simp, fun a ha b hb e => hp (by rw [List.mem_singleton] at hb; rw [← hb, ← e]; exact ha)⟩
  · rw [List.mem_append, List.mem_singleton] at hx
    rcases hx with hx | rfl
    · rw [e0 x hx]
      exact (h.pa x hx).imp id (fun ⟨r, h1, h2⟩ => ⟨r, by simp [h1], h2⟩)
    · rw [e1]
      exact hq.imp id (fun ⟨r, h1, h2⟩ => ⟨r, by simp [h1], h2⟩)
  · rw [List.pairwise_append]
    refine ⟨h.pw.imp_of_mem (fun ha _ e => by rw [e0 _ ha]; exact e), by simp, fun a ha b hb => ?_⟩
    rw [List.mem_singleton] at hb
    rw [hb, e0 a ha]; exact hpx a ha
  · rw [List.mem_append, List.mem_singleton] at hx
    rcases hx with hx | rfl
    · rw [e0 x hx]; exact h.ne x hx
    · rw [e1]
      rcases hq with h1 | ⟨i, h1, h2⟩
      · omega
      · intro e; exact hp (by have : i = x := by omega
                              exact this ▸ h1)
theorem Ord.cut (h : Ord N up) {p : Nat} (hk : ∀ x, x ∈ N → up.getD x 0 ≠ ((p : Nat) : Int)) : Ord (PC.cut N p) up := by
  rw [cut_erase]
  have hs : List.Sublist (N.erase p) N := List.erase_sublist
  refine ⟨h.nd.sublist hs, fun x hx => ?_, h.pw.sublist hs, fun x hx => h.ne x (hs.subset hx)⟩
  refine (h.pa x (hs.subset hx)).imp id (fun ⟨r, h1, h2⟩ => ⟨r, ?_, h2⟩)
  rw [h.nd.mem_erase_iff]
  exact ⟨fun e => hk x (hs.subset hx) (e ▸ h2), h1⟩
/-- A root, or a child, of a forest that follows the order. -/
theorem Ord.step (h : Ord N S.up) (hi : FI n S.up S.O S.cl S.fr S.R) (rel : NRel n S N) (hul : S.up.length = n) {p : Nat} {cl' : List Nat} {fr' : Nat} (hp : pickP S.cl S.fr n = some (p, cl', fr')) {i : Nat} {q : Int} (hq : q = -1 ∨ ∃ i, i ∈ N ∧ q = ((i : Nat) : Int)) : Ord (N ++ [p]) (S.add n i q).up := by
  obtain ⟨-, hno, hpn, -⟩ := hi.s.pick hp
  have e : (S.add n i q).up = S.up.set p q := by unfold FSt.add; rw [hp]
  rw [e]
  exact h.add (fun hm => hno ((rel.mem p).1 hm)) (by omega) hq
theorem Ord.drop (h : Ord N S.up) (hi : FI n S.up S.O S.cl S.fr S.R) (rel : NRel n S N) {p : Nat} (hok : dropOk S.O S.R (p : Int) = true) : Ord (PC.cut N p) (S.drop n (p : Int)).up := by
  have e : (S.drop n (p : Int)).up = S.up := by unfold FSt.drop; rw [if_pos hok]
  rw [e]
  refine h.cut (fun x hx e2 => ?_)
  unfold dropOk at hok
  simp only [Bool.and_eq_true, decide_eq_true_eq] at hok
  have hp : p ∈ S.O := in_ints.1 hok.1
  have e3 := rel.kid p (hi.lt hp)
  have : x ∈ childN N S.up (p : Int) := by unfold childN; rw [List.mem_filter]; exact ⟨hx, decide_eq_true e2⟩
  rw [← e3] at this
  have h0 := hok.2
  simp only [Int.toNat_natCast] at h0
  rw [h0] at this
  exact absurd this (by simp)
end Go.Proofs.Ytdhcmnbajkpjiaa
/-
  Layer 38 (walk): what is above a node; Depth and Top.
-/
namespace Go.Proofs.Ytdhcmnbajkpjiaa
open Go.RowKit
open Go.Maps
set_option linter.unusedVariables false
set_option linter.unusedSimpArgs false
attribute [local go_sem] drewN_alloc drewN_setCell

variable {w0 w w' : World} {own : Nat → Prop} {Fb n : Nat} {S : FSt} {N : List Nat}
/-- A node, and all above it; none, if it is no node. -/
def upsV (N : List Nat) (up : List Int) (x : Int) : List Nat := if 0 ≤ x ∧ x.toNat ∈ N then PW.ups (parW up) (dpW N) x.toNat else []
theorem upsV_no {N : List Nat} {up : List Int} {x : Int} (hx : ¬ (0 ≤ x ∧ x.toNat ∈ N)) : upsV N up x = [] := if_neg hx
theorem upsV_yes {N : List Nat} {up : List Int} (hO : Ord N up) {x : Int} (hx : 0 ≤ x ∧ x.toNat ∈ N) : upsV N up x = x.toNat :: upsV N up (upN N up x) := by
  have e : upN N up x = up.getD x.toNat 0 := if_pos hx
  rw [e]
  unfold upsV
  rw [if_pos hx]
  rcases hO.pa _ hx.2 with h1 | ⟨p, hp, h1⟩
  · rw [PW.ups_none hO.is hx.2 (by unfold parW; rw [h1]; rfl), h1, if_neg (by omega)]
  · rw [PW.ups_some hO.is hx.2 (parW_some.2 h1), h1, if_pos ⟨by omega, by simpa using hp⟩]
    simp
theorem upsV_len {N : List Nat} {up : List Int} (hO : Ord N up) (x : Int) : (upsV N up x).length ≤ N.length := by
  unfold upsV
  split
  · rename_i h; exact PW.ups_len hO.is h.2
  · exact Nat.zero_le _
theorem in_nodes (rel : NRel n S N) (x : Int) : x ∈ ints S.O ↔ 0 ≤ x ∧ x.toNat ∈ N := by rw [in_nat, rel.mem]
def UpRel (w : World) (N : List Nat) (up : List Int) (l : List Nat) (v i : Value) (wr : World) : Prop :=
  ∃ (d : List Nat) (y : Int), i = .int .i64 y ∧ d ++ upsV N up y = l ∧ OwnI w.heap.size wr v (ints d) ∧ Below w.heap.size w wr
theorem ints_app (a b : List Nat) : ints (a ++ b) = ints a ++ ints b := by simp [ints]
/-- Hands back an own slice of ints. -/
def GivesOwnI (w : World) (xs : List Int) (e : Ending) (w' : World) : Prop := ∃ v, e = .returned v ∧ OwnI w.heap.size w' v xs ∧ Below w.heap.size w w'
theorem GivesOwnI.gives {xs : List Int} {e : Ending} (h : GivesOwnI w xs e w') : GivesInts w xs e w' := by
  obtain ⟨v, rfl, ho, hb⟩ := h
  obtain ⟨A2, c3, e8, hA, h8, h9⟩ := ho.ints
  exact own_gives ho (by omega) hb
set_option maxHeartbeats 4000000 in
theorem walk_upO (x : Int) (hO : Ord N S.up) (rel : NRel n S N) (h : ForestOver w0 w own Fb n S) : Calls Try.prog 136 #[.pointer (some ⟨Fb, 0, none⟩), .int .i64 x] w (GivesOwnI w (ints (upsV N S.up x))) := by
  have HF := Lib.hid h
  have hN := rel.le h.fi
  obtain ⟨l, hl⟩ : ∃ l, upsV N S.up x = l := ⟨_, rfl⟩
  have hll : l.length ≤ 4096 := by rw [← hl]; have := upsV_len hO x; omega
  rw [hl]
  have HL := Lib.hid hl
  clear h hl hN
  go_enter Try.func136, Try.ntmps136
  go_wp2_with fail
  go_loopw [5, 6] (fun v i wr => UpRel w N S.up l v i wr) (fun v i _ => (upsV N S.up (intOf i)).length)
  case atStart => exact ⟨[], x, rfl, HL.out, OwnI.nil _ _, Below.refl _ _⟩
  case round =>
    obtain ⟨d, y, rfl, he, ho, hb⟩ := hrel
    have HB := Lib.hid hb
    have HO := Lib.hid ho
    have HE := Lib.hid he
    obtain ⟨Av, cv, hv⟩ := own_shape ho
    obtain ⟨mv, hmv⟩ : ∃ mv, (ints d).length = mv := ⟨_, rfl⟩
    have hmv2 : mv ≤ 4096 := by
      rw [← hmv, ints_len]
      have := congrArg List.length he
      rw [List.length_append] at this
      omega
    rw [hmv] at hv
    have HMV := Lib.hid hmv
    have KI := Lib.hid (overf_Is y (HF.out.keep hb))
    clear hb ho he hmv
    subst hv
    by_cases hy : 0 ≤ y ∧ y.toNat ∈ N
    · have e1 : decide (y ∈ ints S.O) = true := decide_eq_true ((in_nodes rel y).2 hy)
      have HU := Lib.hid (upsV_yes hO hy)
      have hup : upN N S.up y = parV S.O S.up y := rel.up y
      have HY : Hid (0 ≤ y) := Lib.hid hy.1
      obtain ⟨u, hu⟩ : ∃ u, upN N S.up y = u := ⟨_, rfl⟩
      rw [hu] at HU hup
      have HUP := Lib.hid hup
      clear hy hu hup
      rw [e1] at KI
      go_wp2_with fail
      refine KI.out.mono ?_
      rintro e w1 ⟨rfl, rfl⟩
      have HE2 : Hid ((d ++ [y.toNat]) ++ upsV N S.up u = l) := Lib.hid (by rw [List.append_assoc, ← HE.out, HU.out]; rfl)
      have HT2 : Hid (ints d ++ [y] = ints (d ++ [y.toNat])) := Lib.hid (by rw [ints_app]; congr 1; show [y] = [((y.toNat : Nat) : Int)]; rw [Int.toNat_of_nonneg HY.out])
      clear KI e1
      go_wp2_with (at_builtin; refine app_listI rfl (.tmp 14) (.tmp 16) rfl w.heap.size _ _ rfl (HO.out.keep (bel_alloc (Below.refl _ _) _)) (some ⟨wr.heap.size, 0, none⟩) 1 1 [y] rfl (src_oneI (by simp [go_sem])) (by rw [HMV.out]; omega) (by have := HB.out.size; simp; omega) ?_; intro v9 w9 ho9 hb9; rw [HT2.out] at ho9; replace ho9 := Lib.hid ho9; have b9 := Lib.hid ((bel_alloc HB.out _).trans hb9); have KP := Lib.hid (overf_Parent y (HF.out.keep b9.out)); rw [← HUP.out] at KP; clear hb9)
      refine KP.out.mono ?_
      rintro e w2 ⟨rfl, rfl⟩
      clear KP
      go_wp2_with fail
      go_roundw
      case rel => exact ⟨d ++ [y.toNat], u, rfl, HE2.out, ho9.out, b9.out⟩
      case measure => show (upsV N S.up u).length < (upsV N S.up y).length; rw [HU.out]; simp
    · have e1 : decide (y ∈ ints S.O) = false := decide_eq_false (fun hh => hy ((in_nodes rel y).1 hh))
      have HU := Lib.hid (upsV_no (up := S.up) hy)
      clear hy
      rw [e1] at KI
      go_wp2_with fail
      refine KI.out.mono ?_
      rintro e w1 ⟨rfl, rfl⟩
      have HE2 : Hid (d = l) := Lib.hid (by rw [← HE.out, HU.out, List.append_nil])
      clear KI e1
      go_wp2_with fail
      go_ret
      exact ⟨_, rfl, by rw [← HE2.out]; exact HO.out, HB.out⟩
theorem walk_up (x : Int) (hO : Ord N S.up) (rel : NRel n S N) (h : ForestOver w0 w own Fb n S) : Calls Try.prog 136 #[.pointer (some ⟨Fb, 0, none⟩), .int .i64 x] w (GivesInts w (ints (upsV N S.up x))) :=
  (walk_upO x hO rel h).mono fun e w' hh => hh.gives
def depthV (N : List Nat) (up : List Int) (x : Int) : Int := ((upsV N up x).length : Int) - 1
def lastV (l : List Nat) : Int := match l.getLast? with | some p => (p : Int) | none => -1
def topV (N : List Nat) (up : List Int) (x : Int) : Int := lastV (upsV N up x)
theorem walk_Depth (x : Int) (hO : Ord N S.up) (rel : NRel n S N) (h : ForestOver w0 w own Fb n S) : Calls Try.prog 77 #[.pointer (some ⟨Fb, 0, none⟩), .int .i64 x] w fun e w' => e = .returned (.int .i64 (depthV N S.up x)) ∧ Below w.heap.size w w' := by
  have K := Lib.hid (walk_up x hO rel h)
  have hN := rel.le h.fi
  have hl := upsV_len hO x
  unfold depthV
  obtain ⟨l, e⟩ : ∃ l, upsV N S.up x = l := ⟨_, rfl⟩
  rw [e] at K hl ⊢
  clear h e rel hO
  go_enter Try.func77, Try.ntmps77
  go_wp2_with fail
  refine K.out.mono ?_
  rintro e w1 ⟨A1, n1, c1, rfl, h1, b1⟩
  have en : (ints l).length = n1 := h1.1.1
  rw [ints_len] at en
  subst en
  clear h1 K
  go_wp2_with fail
  go_ret
  exact ⟨rfl, b1⟩
end Go.Proofs.Ytdhcmnbajkpjiaa
/-
  slices.Index and slices.Contains of ints; the reference's has.
-/
namespace Go.Proofs.Ytdhcmnbajkpjiaa
open Go.RowKit
open Go.Maps
set_option linter.unusedVariables false
set_option linter.unusedSimpArgs false
attribute [local go_sem] drewN_alloc drewN_setCell

namespace PG
def place (xs : List Int) (x : Int) : Int := match xs.findIdx? (fun y => y == x) with | some i => (i : Int) | none => -1
theorem take_succ_getD {xs : List Int} {k : Nat} (hk : k < xs.length) : xs.take (k + 1) = xs.take k ++ [xs.getD k 0] := by
  rw [List.take_add_one]
  simp [List.getD, hk]
theorem mem_take_iff {xs : List Int} {k : Nat} (hk : k ≤ xs.length) (x : Int) : x ∈ xs.take k ↔ ∃ j, j < k ∧ xs.getD j 0 = x := by
  rw [List.mem_iff_getElem]
  constructor
  · rintro ⟨j, hj, e⟩
    simp only [List.length_take] at hj
    refine ⟨j, by omega, ?_⟩
    rw [List.getElem_take] at e
    simp [List.getD, show j < xs.length by omega, e]
  · rintro ⟨j, hj, e⟩
    refine ⟨j, by simp only [List.length_take]; omega, ?_⟩
    rw [List.getElem_take]
    simpa [List.getD, show j < xs.length by omega] using e
theorem place_none {xs : List Int} {x : Int} (h : x ∉ xs) : place xs x = -1 := by
  unfold place
  rw [List.findIdx?_eq_none_iff.2 (fun y hy => by simp; rintro rfl; exact h hy)]
theorem place_at {xs : List Int} {x : Int} {k : Nat} (hk : k < xs.length) (h : x ∉ xs.take k) (e : xs.getD k 0 = x) : place xs x = k := by
  unfold place
  have : xs.findIdx? (fun y => y == x) = some k := by
    rw [List.findIdx?_eq_some_iff_getElem]
    refine ⟨hk, by simpa [List.getD, hk] using e, fun j hj => ?_⟩
    have := fun e => h ((mem_take_iff (Nat.le_of_lt hk) x).2 e)
    have hj' : j < xs.length := by omega
    simp only [beq_iff_eq]
    intro e2
    exact this ⟨j, hj, by simpa [List.getD, hj'] using e2⟩
  rw [this]
theorem place_mem {xs : List Int} {x : Int} (h : x ∈ xs) : ∃ k : Nat, k < xs.length ∧ place xs x = k ∧ x ∉ xs.take k ∧ xs.getD k 0 = x := by
  unfold place
  cases hf : xs.findIdx? (fun y => y == x) with
  | none =>
    have := List.findIdx?_eq_none_iff.1 hf x h
    simp at this
  | some k =>
    obtain ⟨hk, h1, h2⟩ := List.findIdx?_eq_some_iff_getElem.1 hf
    refine ⟨k, hk, rfl, ?_, by simpa [List.getD, hk] using h1⟩
    rw [mem_take_iff (Nat.le_of_lt hk)]
    rintro ⟨j, hj, e⟩
    have hj' : j < xs.length := by omega
    refine h2 j hj ?_
    simpa [List.getD, hj'] using e
theorem place_ge (xs : List Int) (x : Int) : decide (0 ≤ place xs x) = decide (x ∈ xs) := by
  rw [decide_eq_decide]
  constructor
  · intro h
    by_cases hm : x ∈ xs
    · exact hm
    · rw [place_none hm] at h; omega
  · intro h
    obtain ⟨k, _, e, _⟩ := place_mem h
    rw [e]; omega
end PG
def IdxRel (w : World) (xs : List Int) (x : Int) (n : Nat) (i : Value) (wr : World) : Prop :=
  ∃ k : Nat, k ≤ n ∧ i = .int .i64 k ∧ x ∉ xs.take k ∧ Below w.heap.size w wr
theorem idx_step {xs : List Int} {x y : Int} {k : Nat} (hk : k < xs.length) (h : x ∉ xs.take k) (e : xs.getD k 0 = y) (hne : y ≠ x) : x ∉ xs.take (k + 1) := by
  rw [PG.take_succ_getD hk, List.mem_append, List.mem_singleton, e]
  rintro (h1 | h1)
  · exact h h1
  · exact hne h1.symm

theorem slices_IndexI_0 (A : Option Addr) (c : Nat) (x : Int) (w : World) :
    Calls Try.prog 138 #[.slice A 0 c, .int .i64 x] w fun e w' => e = .returned (.int .i64 (-1)) ∧ Below w.heap.size w w' := by
  go_enter Try.func138, Try.ntmps138
  go_wp2_with fail
  refine wp_loop_rounds 1 ?_
  rw [rounds_succ]
  go_wp2_with fail
  go_ret
  exact ⟨rfl, (by repeat (first | exact Below.refl _ _ | assumption | refine bel_drew ?_ | refine bel_drewN ?_ _ | refine bel_alloc ?_ _ | refine bel_set ?_ (by first | (dsimp only; omega) | (simp; done) | (simp; omega)) _ | refine bel_trans ?_ (by assumption)))⟩
set_option maxHeartbeats 2000000 in
theorem slices_IndexI_some (b off n c : Nat) (xs : List Int) (x : Int) (w : World) (h : IntsAt w (some ⟨b, off, none⟩) n xs) (h0 : 0 < n) :
    Calls Try.prog 138 #[.slice (some ⟨b, off, none⟩) n c, .int .i64 x] w fun e w' => e = .returned (.int .i64 (PG.place xs x)) ∧ Below w.heap.size w w' := by
  obtain ⟨b', off', he, hb, hc⟩ := h.2.2 h0
  obtain ⟨rfl, rfl⟩ : b = b' ∧ off = off' := by simpa using he
  have hn := h.2.1
  have HX := Lib.hid h.1
  have HC := Lib.hid hc
  clear h hc he
  obtain ⟨R, hR⟩ : ∃ R, PG.place xs x = R := ⟨_, rfl⟩
  rw [hR]
  have HR := Lib.hid hR
  clear hR
  go_enter Try.func138, Try.ntmps138
  go_wp2_with fail
  go_loopw [8] (fun i wr => IdxRel w xs x n i wr) (fun i _ => n - (intOf i).toNat)
  case atStart => exact ⟨0, Nat.zero_le _, rfl, by simp, Below.refl _ _⟩
  case round =>
    obtain ⟨k, hk, rfl, hnot, hbel⟩ := hrel
    have HN := Lib.hid hnot
    clear hnot
    have j1 : (0 : Int) ≤ (k : Int) := by omega
    by_cases hlt : (k : Int) < n
    · have x0 := (hbel.cell (p := ⟨b, off + k, none⟩) hb).trans (HC.out k (by omega))
      obtain ⟨y, hy⟩ : ∃ y, xs.getD k 0 = y := ⟨_, rfl⟩
      rw [hy] at x0
      have HY := Lib.hid hy
      clear hy
      by_cases hyx : y = x
      · have hq : (y == x) = true := by simpa using hyx
        have hq2 : (x == y) = true := by simpa using hyx.symm
        have HE := Lib.hid ((PG.place_at (by rw [HX.out]; omega) HN.out (HY.out.trans hyx)).symm.trans HR.out)
        clear hyx
        go_wp2_with fail
        go_ret
        exact ⟨ret_int HE.out, (by repeat (first | exact Below.refl _ _ | assumption | refine bel_drew ?_ | refine bel_drewN ?_ _ | refine bel_alloc ?_ _ | refine bel_set ?_ (by first | (dsimp only; omega) | (simp; done) | (simp; omega)) _ | refine bel_trans ?_ (by assumption)))⟩
      · have hq : (y == x) = false := by simpa using hyx
        have hq2 : (x == y) = false := by simpa using fun e => hyx e.symm
        have HE := Lib.hid (idx_step (by rw [HX.out]; omega) HN.out HY.out hyx)
        clear hyx
        go_wp2_with fail
        go_roundw
        case rel => exact ⟨k + 1, by omega, by go_num, HE.out, (by repeat (first | exact Below.refl _ _ | assumption | refine bel_drew ?_ | refine bel_drewN ?_ _ | refine bel_alloc ?_ _ | refine bel_set ?_ (by first | (dsimp only; omega) | (simp; done) | (simp; omega)) _ | refine bel_trans ?_ (by assumption)))⟩
        case measure => simp [intOf]; omega
    · have hkn : k = n := by omega
      have HE := Lib.hid ((PG.place_none (by have := HN.out; rwa [List.take_of_length_le (by rw [HX.out]; omega)] at this)).symm.trans HR.out)
      clear hkn
      go_wp2_with fail
      go_ret
      exact ⟨ret_int HE.out, (by repeat (first | exact Below.refl _ _ | assumption | refine bel_drew ?_ | refine bel_drewN ?_ _ | refine bel_alloc ?_ _ | refine bel_set ?_ (by first | (dsimp only; omega) | (simp; done) | (simp; omega)) _ | refine bel_trans ?_ (by assumption)))⟩
theorem slices_IndexI {A : Option Addr} {n : Nat} {xs : List Int} (c : Nat) (x : Int) {w : World} (h : IntsAt w A n xs) :
    Calls Try.prog 138 #[.slice A n c, .int .i64 x] w fun e w' => e = .returned (.int .i64 (PG.place xs x)) ∧ Below w.heap.size w w' := by
  by_cases h0 : n = 0
  · subst h0
    have e := List.eq_nil_of_length_eq_zero h.1
    subst e
    exact slices_IndexI_0 A c x w
  · obtain ⟨b, off, rfl, _⟩ := h.2.2 (by omega)
    exact slices_IndexI_some b off n c xs x w h (by omega)

theorem slices_ContainsI {A : Option Addr} {n : Nat} {xs : List Int} (c : Nat) (x : Int) {w : World} (h : IntsAt w A n xs) :
    Calls Try.prog 137 #[.slice A n c, .int .i64 x] w fun e w' => e = .returned (.bool (decide (x ∈ xs))) ∧ Below w.heap.size w w' := by
  have K := Lib.hid (slices_IndexI c x h)
  rw [← PG.place_ge]
  clear h
  go_enter Try.func137, Try.ntmps137
  go_wp2_with fail
  refine K.out.mono ?_
  rintro e w1 ⟨rfl, h1⟩
  go_wp2_with fail
  go_ret
  exact ⟨ret_bool (by simp), (by repeat (first | exact Below.refl _ _ | assumption | refine bel_drew ?_ | refine bel_drewN ?_ _ | refine bel_alloc ?_ _ | refine bel_set ?_ (by first | (dsimp only; omega) | (simp; done) | (simp; omega)) _ | refine bel_trans ?_ (by assumption)))⟩
theorem ref38_has {A : Option Addr} {n : Nat} {xs : List Int} (c : Nat) (x : Int) {w : World} (h : IntsAt w A n xs) : Calls Try.prog 134 #[.slice A n c, .int .i64 x] w fun e w' => e = .returned (.bool (decide (x ∈ xs))) ∧ w = w' := by
  have hl := h.1
  have hn := h.2.1
  have HC := Lib.hid h.2.2
  clear h
  go_enter Try.func134, Try.ntmps134
  go_wp2_with fail
  go_loopw [5] (fun i wr => HasRel w xs x n i wr) (fun i _ => n - (intOf i).toNat)
  case atStart => exact ⟨0, Nat.zero_le _, rfl, fun j hj => absurd hj (by omega), rfl⟩
  case round =>
    obtain ⟨k, hk, rfl, hno, rfl⟩ := hrel
    have HN := Lib.hid hno
    clear hno
    by_cases hlt : (k : Int) < (n : Int)
    · obtain ⟨b, off, rfl, hb, hc⟩ := HC.out (by omega)
      have xk := hc k (by omega)
      have HNX : Hid (xs.getD k 0 ≠ x → ∀ j, j < k + 1 → xs.getD j 0 ≠ x) := Lib.hid (fun hq j hj => by
        rcases Nat.lt_or_ge j k with h1 | h1
        · exact HN.out j h1
        · obtain rfl : j = k := by omega
          exact hq)
      have HYX : Hid (xs.getD k 0 = x → true = decide (x ∈ xs)) := Lib.hid (fun hq => (decide_eq_true (by
        have e : xs.getD k 0 = xs[k]'(by omega) := by simp [List.getD, show k < xs.length by omega]
        rw [← hq, e]
        exact List.getElem_mem _)).symm)
      obtain ⟨y, hy⟩ : ∃ y, xs.getD k 0 = y := ⟨_, rfl⟩
      rw [hy] at xk HNX HYX
      have j0 : (0 : Int) ≤ (k : Int) := by omega
      have j1 : (k : Int) < (n : Int) := hlt
      clear hc hy
      by_cases hq : y = x
      · have q : (y == x) = true := by simpa using hq
        have HE := Lib.hid (HYX.out hq)
        subst hq
        go_wp2_with fail
        go_ret
        exact ⟨ret_bool HE.out, rfl⟩
      · have q : (y == x) = false := by simpa using hq
        have HE := Lib.hid (HNX.out hq)
        go_wp2_with fail
        go_roundw
        case rel => exact ⟨k + 1, by omega, by go_num, HE.out, rfl⟩
        case measure => simp [intOf] <;> omega
    · have HE : Hid (false = decide (x ∈ xs)) := Lib.hid (decide_eq_false (fun hm => by
        obtain ⟨j, hj, e⟩ := List.mem_iff_getElem.1 hm
        exact HN.out j (by omega) (by simp [List.getD, hj, e]))).symm
      go_wp2_with fail
      go_ret
      exact ⟨ret_bool HE.out, rfl⟩
end Go.Proofs.Ytdhcmnbajkpjiaa
/-
  Layer 38 (walk): Top, Within; the reference's Depth and Top.
-/
namespace Go.Proofs.Ytdhcmnbajkpjiaa
open Go.RowKit
open Go.Maps
set_option linter.unusedVariables false
set_option linter.unusedSimpArgs false
attribute [local go_sem] drewN_alloc drewN_setCell

variable {w0 w w' : World} {own : Nat → Prop} {Fb n : Nat} {S : FSt} {N : List Nat}
theorem walk_Within (x t : Int) (hO : Ord N S.up) (rel : NRel n S N) (h : ForestOver w0 w own Fb n S) : Calls Try.prog 81 #[.pointer (some ⟨Fb, 0, none⟩), .int .i64 x, .int .i64 t] w fun e w' => e = .returned (.bool (decide (t ∈ ints (upsV N S.up x)))) ∧ Below w.heap.size w w' := by
  have K := Lib.hid (walk_up x hO rel h)
  obtain ⟨l, e⟩ : ∃ l, upsV N S.up x = l := ⟨_, rfl⟩
  rw [e] at K ⊢
  clear h e rel hO
  go_enter Try.func81, Try.ntmps81
  go_wp2_with fail
  refine K.out.mono ?_
  rintro e w1 ⟨A1, n1, c1, rfl, h1, b1⟩
  have K2 := Lib.hid (slices_ContainsI c1 t h1.1)
  have B1 := Lib.hid b1
  clear h1 K b1
  go_wp2_with fail
  refine K2.out.mono ?_
  rintro e w2 ⟨rfl, b2⟩
  have B2 := Lib.hid (bel_trans B1.out b2)
  go_wp2_with fail
  go_ret
  exact ⟨ret_bool (by simp), B2.out⟩
theorem walk_Top (x : Int) (hO : Ord N S.up) (rel : NRel n S N) (h : ForestOver w0 w own Fb n S) : Calls Try.prog 79 #[.pointer (some ⟨Fb, 0, none⟩), .int .i64 x] w fun e w' => e = .returned (.int .i64 (topV N S.up x)) ∧ Below w.heap.size w w' := by
  have K := Lib.hid (walk_up x hO rel h)
  have hN := rel.le h.fi
  have hl := upsV_len hO x
  unfold topV
  obtain ⟨l, e⟩ : ∃ l, upsV N S.up x = l := ⟨_, rfl⟩
  rw [e] at K hl ⊢
  clear h e rel hO
  rcases List.eq_nil_or_concat l with rfl | ⟨l', p, rfl⟩
  · go_enter Try.func79, Try.ntmps79
    go_wp2_with fail
    refine K.out.mono ?_
    rintro e w1 ⟨A1, n1, c1, rfl, h1, b1⟩
    obtain rfl : 0 = n1 := h1.1.1
    clear h1 K
    go_wp2_with fail
    go_ret
    exact ⟨rfl, b1⟩
  · rw [List.concat_eq_append] at *
    obtain ⟨r, hr⟩ : ∃ r : Int, lastV (l' ++ [p]) = r := ⟨_, rfl⟩
    rw [hr]
    have hp : r = (p : Int) := by rw [← hr]; unfold lastV; rw [List.getLast?_append]; rfl
    have HP := Lib.hid hp
    obtain ⟨k, hk⟩ : ∃ k, l'.length = k := ⟨_, rfl⟩
    have hk2 : k ≤ 4096 := by rw [List.length_append, List.length_singleton] at hl; omega
    have HK := Lib.hid hk
    clear hr hp hl hk
    go_enter Try.func79, Try.ntmps79
    go_wp2_with fail
    refine K.out.mono ?_
    rintro e w1 ⟨A1, n1, c1, rfl, h1, b1⟩
    have en : n1 = k + 1 := by have := h1.1.1; rw [ints_len, List.length_append, List.length_singleton, HK.out] at this; omega
    subst en
    obtain ⟨b, off, rfl, hb, hc⟩ := h1.1.2.2 (by omega)
    have x0 := hc k (by omega)
    have ex : (ints (l' ++ [p])).getD k 0 = (p : Int) := by
      rw [← HK.out]; simp [ints]
    rw [ex, ← HP.out] at x0
    clear hc ex
    have g0 : (0 : Int) ≤ (k : Int) := by omega
    have g1 : (k : Int) < ((k + 1 : Nat) : Int) := by omega
    have g2 : (((k + 1 : Nat) : Int) == 0) = false := by simp; omega
    have g3 : IntKind.i64.wrap (((k + 1 : Nat) : Int) - 1) = (k : Int) := by rw [IntKind.wrap_i64]; omega
    have g4 : ((k + 1 : Nat) : Int) = (k : Int) + 1 := by omega
    have B1 := Lib.hid b1
    clear h1 K b1
    go_wp2_with fail
    go_ret
    exact ⟨rfl, B1.out⟩
section
variable {P : Nat → Prop} {V : Value} {g : List Int} {O cl : List Nat} {fr : Nat} {up : List Int}
def RDepRel (w0 : World) (N : List Nat) (up : List Int) (r : Int) (x i : Value) (wr : World) : Prop :=
  ∃ (k : Nat) (y : Int), x = .int .i64 y ∧ i = .int .i64 ((k : Int) - 1) ∧ (k : Int) + ((upsV N up y).length : Int) - 1 = r ∧ Below w0.heap.size w0 wr
set_option maxRecDepth 100000 in
set_option maxHeartbeats 4000000 in
theorem ref38_Depth (x : Int) (hO : Ord N up) (hN : N.length ≤ 4096) (h : RefF P w V n g O cl fr N up) : Calls Try.prog 78 #[V, .int .i64 x] w fun e w' => e = .returned (.int .i64 (depthV N up x)) ∧ Below w.heap.size w w' := by
  have hh := h
  obtain ⟨Ao, co, Ag, cg, Ac, cc, An, cn, Ap, cp, rfl, h1, h2, h3⟩ := h
  obtain ⟨m, hml⟩ : ∃ m, cl.length = m := ⟨_, rfl⟩
  rw [hml] at hh ⊢
  obtain ⟨w0, hw0⟩ : ∃ w0, w.alloc (.cells #[.slice Ao n co, .slice Ag n cg, .slice Ac m cc, .int .i64 (fr : Int), .slice An N.length cn, .slice Ap N.length cp] 58) = w0 := ⟨_, rfl⟩
  have r0 : RowAt w0 w.heap.size 58 [.slice Ao n co, .slice Ag n cg, .slice Ac m cc, .int .i64 (fr : Int), .slice An N.length cn, .slice Ap N.length cp] := by rw [← hw0]; exact RowAt.new w 58 _
  have b0 : Below w.heap.size w w0 := by rw [← hw0]; exact (by repeat (first | exact Below.refl _ _ | assumption | refine bel_drew ?_ | refine bel_drewN ?_ _ | refine bel_alloc ?_ _ | refine bel_set ?_ (by first | (dsimp only; omega) | (simp; done) | (simp; omega)) _ | refine bel_trans ?_ (by assumption)))
  have R0 := Lib.hid r0
  have B0 := Lib.hid b0
  have HW0 := Lib.hid hw0
  have HH := Lib.hid (hh.keep b0)
  clear h1 h2 h3 hml b0 hh hw0 r0
  obtain ⟨r, hr⟩ : ∃ r, depthV N up x = r := ⟨_, rfl⟩
  have hl := upsV_len hO x
  have hr2 : r ≤ 4096 := by rw [← hr]; unfold depthV; omega
  rw [hr]
  have HR := Lib.hid hr
  clear hr hl
  go_enter Try.func78, Try.ntmps78
  go_upto_region 1 with (fail)
  rw [HW0.out]
  go_wp2_with fail
  go_loopw [1, 5] (fun x i wr => RDepRel w0 N up r x i wr) (fun x _ _ => (upsV N up (intOf x)).length)
  case atStart => exact ⟨0, x, rfl, rfl, by have := HR.out; unfold depthV at this; omega, Below.refl _ _⟩
  case round =>
    obtain ⟨k, y, rfl, rfl, he, hb⟩ := hrel
    have HB := Lib.hid hb
    have HE := Lib.hid he
    have r1 := R0.out.keep hb
    have KA := Lib.hid (ref37_At y (HH.out.keep hb))
    have hk0 : (k : Int) ≤ 4097 := by omega
    have R1 := Lib.hid r1
    have c0 : wr.cell? ⟨w.heap.size, 0, none⟩ = some (.slice Ao n co) := by rw [r1.cell]; rfl
    have c1 : wr.cell? ⟨w.heap.size, 1, none⟩ = some (.slice Ag n cg) := by rw [r1.cell]; rfl
    have c2 : wr.cell? ⟨w.heap.size, 2, none⟩ = some (.slice Ac m cc) := by rw [r1.cell]; rfl
    have c3 : wr.cell? ⟨w.heap.size, 3, none⟩ = some (.int .i64 (fr : Int)) := by rw [r1.cell]; rfl
    have c4 : wr.cell? ⟨w.heap.size, 4, none⟩ = some (.slice An N.length cn) := by rw [r1.cell]; rfl
    have c5 : wr.cell? ⟨w.heap.size, 5, none⟩ = some (.slice Ap N.length cp) := by rw [r1.cell]; rfl
    clear hb he r1
    by_cases hy : 0 ≤ y ∧ y.toNat ∈ N
    · have HU := Lib.hid (upsV_yes hO hy)
      have e1 : PC.place N y = (N.idxOf y.toNat : Nat) := by unfold PC.place; rw [if_pos hy]
      obtain ⟨q, hq⟩ : ∃ q, N.idxOf y.toNat = q := ⟨_, rfl⟩
      rw [e1, hq] at KA
      obtain ⟨u, hu⟩ : ∃ u, upN N up y = u := ⟨_, rfl⟩
      rw [hu] at HU
      have HUU := Lib.hid hu
      have g0 : (0 : Int) ≤ (q : Int) := by omega
      have g1 : IntKind.i64.wrap ((k : Int) - 1 + 1) = (k : Int) := by rw [IntKind.wrap_i64]; omega
      clear e1 hq hu hy
      go_wp2_with fail
      refine KA.out.mono ?_
      rintro e w1 ⟨rfl, b1⟩
      have HB1 := Lib.hid (bel_trans HB.out b1)
      have r2 := R1.out.keep b1
      have KU := Lib.hid (ref37_Up y (HH.out.keep HB1.out))
      rw [HUU.out] at KU
      clear c0 c1 c2 c3 c4 c5 KA b1
      have c0 : w1.cell? ⟨w.heap.size, 0, none⟩ = some (.slice Ao n co) := by rw [r2.cell]; rfl
      have c1 : w1.cell? ⟨w.heap.size, 1, none⟩ = some (.slice Ag n cg) := by rw [r2.cell]; rfl
      have c2 : w1.cell? ⟨w.heap.size, 2, none⟩ = some (.slice Ac m cc) := by rw [r2.cell]; rfl
      have c3 : w1.cell? ⟨w.heap.size, 3, none⟩ = some (.int .i64 (fr : Int)) := by rw [r2.cell]; rfl
      have c4 : w1.cell? ⟨w.heap.size, 4, none⟩ = some (.slice An N.length cn) := by rw [r2.cell]; rfl
      have c5 : w1.cell? ⟨w.heap.size, 5, none⟩ = some (.slice Ap N.length cp) := by rw [r2.cell]; rfl
      clear r2
      go_wp2_with fail
      refine KU.out.mono ?_
      rintro e w2 ⟨rfl, b2⟩
      have HB2 := Lib.hid (bel_trans HB1.out b2)
      clear c0 c1 c2 c3 c4 c5 KU b2
      go_wp2_with fail
      go_roundw
      case rel => exact ⟨k + 1, u, rfl, by go_num, by have := HE.out; rw [HU.out, List.length_cons] at this; omega, HB2.out⟩
      case measure => show (upsV N up u).length < (upsV N up y).length; rw [HU.out]; simp
    · have HU := Lib.hid (upsV_no (up := up) hy)
      have e1 : PC.place N y = -1 := by unfold PC.place; rw [if_neg hy]
      rw [e1] at KA
      clear e1 hy
      go_wp2_with fail
      refine KA.out.mono ?_
      rintro e w1 ⟨rfl, b1⟩
      have HB1 := Lib.hid (bel_trans HB.out b1)
      clear c0 c1 c2 c3 c4 c5 KA b1
      go_wp2_with fail
      go_ret
      exact ⟨ret_int (by have := HE.out; rw [HU.out] at this; simp at this; omega), bel_trans B0.out HB1.out⟩
def RTopRel (w0 : World) (N : List Nat) (up : List Int) (r : Int) (x i : Value) (wr : World) : Prop :=
  ∃ (t y : Int), x = .int .i64 y ∧ i = .int .i64 t ∧ (if upsV N up y = [] then t else topV N up y) = r ∧ Below w0.heap.size w0 wr
theorem topV_step {y u : Int} (hU : upsV N up y = y.toNat :: upsV N up u) (h0 : 0 ≤ y) {r : Int} {t : Int} (h : (if upsV N up y = [] then t else topV N up y) = r) : (if upsV N up u = [] then y else topV N up u) = r := by
  rw [if_neg (by rw [hU]; simp)] at h
  rw [← h]
  unfold topV lastV
  rw [hU]
  split
  · rename_i e; rw [e]; simp; omega
  · rename_i e
    rw [List.getLast?_cons]
    cases hq : (upsV N up u).getLast? with
    | none => rw [List.getLast?_eq_none_iff] at hq; exact absurd hq e
    | some q => rfl
set_option maxRecDepth 100000 in
set_option maxHeartbeats 4000000 in
theorem ref38_Top (x : Int) (hO : Ord N up) (hN : N.length ≤ 4096) (h : RefF P w V n g O cl fr N up) : Calls Try.prog 80 #[V, .int .i64 x] w fun e w' => e = .returned (.int .i64 (topV N up x)) ∧ Below w.heap.size w w' := by
  have hh := h
  obtain ⟨Ao, co, Ag, cg, Ac, cc, An, cn, Ap, cp, rfl, h1, h2, h3⟩ := h
  obtain ⟨m, hml⟩ : ∃ m, cl.length = m := ⟨_, rfl⟩
  rw [hml] at hh ⊢
  obtain ⟨w0, hw0⟩ : ∃ w0, w.alloc (.cells #[.slice Ao n co, .slice Ag n cg, .slice Ac m cc, .int .i64 (fr : Int), .slice An N.length cn, .slice Ap N.length cp] 58) = w0 := ⟨_, rfl⟩
  have r0 : RowAt w0 w.heap.size 58 [.slice Ao n co, .slice Ag n cg, .slice Ac m cc, .int .i64 (fr : Int), .slice An N.length cn, .slice Ap N.length cp] := by rw [← hw0]; exact RowAt.new w 58 _
  have b0 : Below w.heap.size w w0 := by rw [← hw0]; exact (by repeat (first | exact Below.refl _ _ | assumption | refine bel_drew ?_ | refine bel_drewN ?_ _ | refine bel_alloc ?_ _ | refine bel_set ?_ (by first | (dsimp only; omega) | (simp; done) | (simp; omega)) _ | refine bel_trans ?_ (by assumption)))
  have R0 := Lib.hid r0
  have B0 := Lib.hid b0
  have HW0 := Lib.hid hw0
  have HH := Lib.hid (hh.keep b0)
  clear h1 h2 h3 hml b0 hh hw0 r0
  obtain ⟨r, hr⟩ : ∃ r, topV N up x = r := ⟨_, rfl⟩
  rw [hr]
  have HR := Lib.hid hr
  clear hr
  go_enter Try.func80, Try.ntmps80
  go_upto_region 1 with (fail)
  rw [HW0.out]
  go_wp2_with fail
  go_loopw [1, 5] (fun x i wr => RTopRel w0 N up r x i wr) (fun x _ _ => (upsV N up (intOf x)).length)
  case atStart =>
    refine ⟨-1, x, rfl, rfl, ?_, Below.refl _ _⟩
    rw [← HR.out]
    split
    · rename_i e; unfold topV lastV; rw [e]; rfl
    · rfl
  case round =>
    obtain ⟨t, y, rfl, rfl, he, hb⟩ := hrel
    have HB := Lib.hid hb
    have HE := Lib.hid he
    have r1 := R0.out.keep hb
    have KA := Lib.hid (ref37_At y (HH.out.keep hb))
    have R1 := Lib.hid r1
    have c0 : wr.cell? ⟨w.heap.size, 0, none⟩ = some (.slice Ao n co) := by rw [r1.cell]; rfl
    have c1 : wr.cell? ⟨w.heap.size, 1, none⟩ = some (.slice Ag n cg) := by rw [r1.cell]; rfl
    have c2 : wr.cell? ⟨w.heap.size, 2, none⟩ = some (.slice Ac m cc) := by rw [r1.cell]; rfl
    have c3 : wr.cell? ⟨w.heap.size, 3, none⟩ = some (.int .i64 (fr : Int)) := by rw [r1.cell]; rfl
    have c4 : wr.cell? ⟨w.heap.size, 4, none⟩ = some (.slice An N.length cn) := by rw [r1.cell]; rfl
    have c5 : wr.cell? ⟨w.heap.size, 5, none⟩ = some (.slice Ap N.length cp) := by rw [r1.cell]; rfl
    clear hb he r1
    by_cases hy : 0 ≤ y ∧ y.toNat ∈ N
    · have HU := Lib.hid (upsV_yes hO hy)
      have e1 : PC.place N y = (N.idxOf y.toNat : Nat) := by unfold PC.place; rw [if_pos hy]
      obtain ⟨q, hq⟩ : ∃ q, N.idxOf y.toNat = q := ⟨_, rfl⟩
      rw [e1, hq] at KA
      obtain ⟨u, hu⟩ : ∃ u, upN N up y = u := ⟨_, rfl⟩
      rw [hu] at HU
      have HUU := Lib.hid hu
      have HY0 : Hid (0 ≤ y) := Lib.hid hy.1
      have g0 : (0 : Int) ≤ (q : Int) := by omega
      clear e1 hq hu hy
      go_wp2_with fail
      refine KA.out.mono ?_
      rintro e w1 ⟨rfl, b1⟩
      have HB1 := Lib.hid (bel_trans HB.out b1)
      have r2 := R1.out.keep b1
      have KU := Lib.hid (ref37_Up y (HH.out.keep HB1.out))
      rw [HUU.out] at KU
      clear c0 c1 c2 c3 c4 c5 KA b1
      have c0 : w1.cell? ⟨w.heap.size, 0, none⟩ = some (.slice Ao n co) := by rw [r2.cell]; rfl
      have c1 : w1.cell? ⟨w.heap.size, 1, none⟩ = some (.slice Ag n cg) := by rw [r2.cell]; rfl
      have c2 : w1.cell? ⟨w.heap.size, 2, none⟩ = some (.slice Ac m cc) := by rw [r2.cell]; rfl
      have c3 : w1.cell? ⟨w.heap.size, 3, none⟩ = some (.int .i64 (fr : Int)) := by rw [r2.cell]; rfl
      have c4 : w1.cell? ⟨w.heap.size, 4, none⟩ = some (.slice An N.length cn) := by rw [r2.cell]; rfl
      have c5 : w1.cell? ⟨w.heap.size, 5, none⟩ = some (.slice Ap N.length cp) := by rw [r2.cell]; rfl
      clear r2
      go_wp2_with fail
      refine KU.out.mono ?_
      rintro e w2 ⟨rfl, b2⟩
      have HB2 := Lib.hid (bel_trans HB1.out b2)
      clear c0 c1 c2 c3 c4 c5 KU b2
      go_wp2_with fail
      go_roundw
      case rel => exact ⟨y, u, rfl, rfl, topV_step HU.out HY0.out HE.out, HB2.out⟩
      case measure => show (upsV N up u).length < (upsV N up y).length; rw [HU.out]; simp
    · have HU := Lib.hid (upsV_no (up := up) hy)
      have e1 : PC.place N y = -1 := by unfold PC.place; rw [if_neg hy]
      rw [e1] at KA
      clear e1 hy
      go_wp2_with fail
      refine KA.out.mono ?_
      rintro e w1 ⟨rfl, b1⟩
      have HB1 := Lib.hid (bel_trans HB.out b1)
      clear c0 c1 c2 c3 c4 c5 KA b1
      go_wp2_with fail
      go_ret
      exact ⟨ret_int (by have := HE.out; rw [if_pos HU.out] at this; exact this), bel_trans B0.out HB1.out⟩
end
end Go.Proofs.Ytdhcmnbajkpjiaa
/-
  A range over a function whose body always goes on, where the iterator and the caller each write cells of their own between the rounds: each one's blocks grow.
-/
namespace Go.Proofs.Ytdhcmnbajkpjiaa
open Go.RowKit
set_option linter.unusedVariables false

/-- How a round's body is left: only the caller's blocks have changed, and these have grown by new ones. -/
def goesOnY {α : Type} (I : List α → (Nat → Prop) → World → Prop) (xs : List α) (own : Nat → Prop) (W : World) : Exit → Act → World → Prop
  | .normal, _, W' => Chg own W W' ∧ ∃ own', I xs own' W' ∧ ∀ k, own' k → own k ∨ W.heap.size ≤ k
  | _, _, _ => False

/-- What an iterator gives: for every J that a change of other blocks leaves, and that each round leads on. -/
def IterGivesY {α : Type} (P : Program) (gf : Nat) (lb : Array Value) (encs : α → Array Value) (S : List α → Prop) (Fr : Nat → Prop) (l K : Nat) (W : World) : Prop :=
  ∀ (J : List α → (Nat → Prop) → World → Prop) (own0 : Nat → Prop), (∀ s own A B, J s own A → Chg (fun k => ¬ own k ∧ W.heap.size ≤ k) A B → J s own B) → (∀ s own A, J s own A → ∀ k, own k → k < A.heap.size) →
    (∀ pre x own W1, J pre own W1 → pre.length < K → ∀ m, YieldAt Fence.wide m P l (encs x) W1 fun e W' => e = .returned (.bool true) ∧ Chg own W1 W' ∧ ∃ own', J (pre ++ [x]) own' W' ∧ ∀ k, own' k → own k ∨ W1.heap.size ≤ k) →
    J [] own0 W → (∀ k, own0 k → Fr k) →
    Calls P gf (#[.func (.yield l) #[] #[]] ++ lb) W fun e W' => (∃ v, e = .returned v) ∧ ∃ xs, S xs ∧ ∃ own, J xs own W'

theorem chg_put {own : Nat → Prop} {A : World} {k : Nat} {o : Obj} (h : own k) : Chg own A (A.putObj k o) :=
  ⟨rfl, rfl, rfl, by simp, fun i _ hi => World.putObj_heap_other (fun e => hi (by subst e; exact h))⟩
theorem range_plainY {P : Program} {α : Type} {g : Operand} {ps : Array Tmp} {assign body : Code} {Q : Exit → Act → World → Prop} {a : Act} {w : World} {n : Nat} {gf : Nat} {lb : Array Value}
    (hg : a.eval g = .func (.func gf) #[] lb) (eg : ∀ args w, (callFunc gf args).run P w = .ok (.enter gf args) w) {encs : α → Array Value} (hps : ∀ x, (encs x).size = ps.size)
    (I : List α → (Nat → Prop) → World → Prop) (S : List α → Prop) (own0 : Nat → Prop) (Fr : Nat → Prop) (K9 : Nat)
    (hI : ∀ s own A B, I s own A → Chg (fun k => ¬ own k ∧ w.heap.size ≤ k) A B → I s own B) (hlt : ∀ s own A, I s own A → ∀ k, own k → k < A.heap.size) (hb0 : ∀ k, own0 k → Fr k) (hb1 : Fr w.heap.size) (hb2 : Fr (w.heap.size + 1)) (h00 : ∀ k, own0 k → k < w.heap.size)
    (h0 : ∀ o, I [] own0 ((w.alloc (.deferred (some []))).alloc o))
    (hseq : ∀ o, IterGivesY P gf lb encs S Fr (w.heap.size + 1) K9 ((w.alloc (.deferred (some []))).alloc o)) (a₁ : α → Act)
    (hassign : ∀ (l m : Nat) (x : α) (W : World) (K : Act → World → Prop), K (a₁ x) W →
      assign.wpIn (Fence.wide.inRound l) m P (Exit.then K (fun _ _ _ => False)) { tmps := (ps.zip (encs x)).foldl (fun t (p, v) => t.setIfInBounds p v) a.tmps, defers := [] } W)
    (hbody : ∀ (l m : Nat) (pre : List α) (x : α) (own : Nat → Prop) (W : World), I pre own W → ¬ own w.heap.size → ¬ own (w.heap.size + 1) → w.heap.size + 1 < W.heap.size → pre.length < K9 → body.wpIn (Fence.wide.inRound l) m P (goesOnY I (pre ++ [x]) own W) (a₁ x) W)
    (hdone : ∀ (xs : List α) (own : Nat → Prop) (W : World), S xs → I xs own W → W.heap[w.heap.size]? = some (.deferred (some [])) → Q .normal { a with defers := { target := .collected w.heap.size, args := #[] } :: a.defers } W) :
    (Code.rangeFunc g ps assign body).wpIn Fence.wide n P Q a w := by
  refine wpIn_rangeFunc ?_
  intro fn hfn
  have hro : Fence.wide.round = none := rfl
  rw [hro]
  obtain ⟨rec, hrec⟩ : ∃ rec : LoopState → Loop, rec = fun st => { state := st, pending := none, fn, tmps := a.tmps, params := ps, assign, body, defers := w.heap.size } := ⟨_, rfl⟩
  have hres : ∀ st, (rec st).state = st := fun st => by rw [hrec]
  obtain ⟨W1, hW1⟩ : ∃ W1, (w.alloc (.deferred (some []))).alloc (.loop (rec .ready)) = W1 := ⟨_, rfl⟩
  have hL1 : W1.heap[w.heap.size + 1]? = some (.loop (rec .ready)) := by
    rw [← hW1]; have := World.alloc_heap_new (w.alloc (.deferred (some []))) (.loop (rec .ready)); rwa [World.size_alloc] at this
  have hK1 : W1.heap[w.heap.size]? = some (.deferred (some [])) := by
    rw [← hW1]; exact (Below.heap_alloc _ _ _ (by simp)).trans (World.alloc_heap_new w _)
  have hI1 : I [] own0 W1 := by rw [← hW1]; exact h0 _
  have hW1s : w.heap.size ≤ W1.heap.size := by rw [← hW1, World.size_alloc, World.size_alloc]; omega
  have hcall := hseq (.loop (rec .ready))
  rw [hW1] at hcall
  refine ⟨w.heap.size + 1, [{ target := .collected w.heap.size, args := #[] }], W1, { target := .fn (.func gf) lb, args := #[.func (.yield (w.heap.size + 1)) #[] #[]] }, W1, gf,
    #[.func (.yield (w.heap.size + 1)) #[] #[]] ++ lb, W1, ?_, ?_, ?_, ?_, fun h => by simp [Fence.wide] at h, callsIn_wide.2 ?_⟩
  · rw [← hW1, hrec]; exact run_enterLoop_outer _ _ _ _ _
  · simp only [resolve, hg]
    simp [go_sem]
  · intro f' hf'; trivial
  · simp [invoke, go_sem, eg]
  refine (hcall (fun pre own W => ∃ oi : Nat → Prop, I pre oi W ∧ (∀ k, own k ↔ oi k ∨ k = w.heap.size ∨ k = w.heap.size + 1) ∧ ¬ oi w.heap.size ∧ ¬ oi (w.heap.size + 1) ∧ W.heap[w.heap.size + 1]? = some (.loop (rec .ready)) ∧ W.heap[w.heap.size]? = some (.deferred (some [])))
    (fun k => own0 k ∨ k = w.heap.size ∨ k = w.heap.size + 1) ?_ ?_ ?_ ?_ ?_).mono ?_
  · rintro s own A B ⟨oi, hi, ho, n0, n1, hl, hk⟩ hc
    have keep : ∀ {k : Nat} {o : Obj}, own k → A.heap[k]? = some o → B.heap[k]? = some o := fun {k o} h1 h2 => (hc.block k (Array.getElem?_eq_some_iff.1 h2).1 (fun h3 => h3.1 h1)).trans h2
    exact ⟨oi, hI s oi A B hi (hc.mono (fun k _ hk => ⟨fun hh => hk.1 ((ho k).2 (.inl hh)), Nat.le_trans hW1s hk.2⟩)), ho, n0, n1, keep ((ho _).2 (.inr (.inr rfl))) hl, keep ((ho _).2 (.inr (.inl rfl))) hk⟩
  · rintro s own A ⟨oi, hi, ho, n0, n1, hl, hk⟩ k hk2
    rcases (ho k).1 hk2 with h1 | rfl | rfl
    · exact hlt s oi A hi k h1
    · exact (Array.getElem?_eq_some_iff.1 hk).1
    · exact (Array.getElem?_eq_some_iff.1 hl).1
  · rintro pre x own W ⟨oi, hi, ho, n0, n1, hl, hk⟩ hpl m
    have hlt' : w.heap.size + 1 < W.heap.size := (Array.getElem?_eq_some_iff.1 hl).1
    have hy := run_yield (P := P) (args := encs x) hl (by rw [hrec]; exact hps x)
    rw [hrec] at hy
    refine ⟨fn, _, assign, body, hy, roundIn_of_wpIn trivial (hassign _ m x W _ ⟨_, run_beginRound hl (hres _), ?_⟩)⟩
    obtain ⟨W2, hW2⟩ : ∃ W2, W.putObj (w.heap.size + 1) (.loop { rec .ready with state := .busy }) = W2 := ⟨_, rfl⟩
    rw [hW2]
    have hl2 : W2.heap[w.heap.size + 1]? = some (.loop { rec .ready with state := .busy }) := by rw [← hW2]; exact World.putObj_heap_same hlt'
    have hk2 : W2.heap[w.heap.size]? = some (.deferred (some [])) := by rw [← hW2]; exact (World.putObj_heap_other (by omega)).trans hk
    have hi2 : I pre oi W2 := by rw [← hW2]; exact hI _ _ _ _ hi (chg_put ⟨n1, by omega⟩)
    have hw2 : Chg own W W2 := by rw [← hW2]; exact chg_put ((ho _).2 (.inr (.inr rfl)))
    refine wpIn_mono (hbody _ m pre x oi W2 hi2 n0 n1 (Array.getElem?_eq_some_iff.1 hl2).1 hpl) ?_
    rintro e a3 W3 hp
    cases e with
    | normal =>
      obtain ⟨hc3, oi3, hi3, ho3⟩ := hp
      have hl3 := (hc3.block _ (Array.getElem?_eq_some_iff.1 hl2).1 n1).trans hl2
      have hk3 := (hc3.block _ (Array.getElem?_eq_some_iff.1 hk2).1 n0).trans hk2
      have hlt3 := (Array.getElem?_eq_some_iff.1 hl3).1
      have hr := run_endRound (P := P) none hl3
      have s2 := hw2.size
      have m0 : ¬ oi3 w.heap.size := fun hh => by
        rcases ho3 _ hh with h1 | h1
        · exact n0 h1
        · omega
      have m1 : ¬ oi3 (w.heap.size + 1) := fun hh => by
        rcases ho3 _ hh with h1 | h1
        · exact n1 h1
        · omega
      refine ⟨_, _, hr, rfl, (hw2.trans (hc3.mono (fun k _ hk => (ho k).2 (.inl hk)))).trans (chg_put ((ho _).2 (.inr (.inr rfl)))), fun k => oi3 k ∨ k = w.heap.size ∨ k = w.heap.size + 1, ⟨oi3, hI _ _ _ _ hi3 (chg_put ⟨m1, by omega⟩), fun _ => Iff.rfl, m0, m1, ?_, (World.putObj_heap_other (by omega)).trans hk3⟩, fun k hk => ?_⟩
      · rw [World.putObj_heap_same hlt3]
        simp [hrec]
      · rcases hk with hk | hk
        · rcases ho3 k hk with h1 | h1
          · exact .inl ((ho k).2 (.inl h1))
          · exact .inr (by omega)
        · exact .inl ((ho k).2 (.inr hk))
    | ret => exact hp.elim
    | exit id => exact hp.elim
    | goto t => exact hp.elim
    | panic ch => exact hp.elim
    | outgrown => exact hp.elim
  · exact ⟨own0, hI1, fun _ => Iff.rfl, fun hh => by have := h00 _ hh; omega, fun hh => by have := h00 _ hh; omega, hL1, hK1⟩
  · rintro k (h1 | rfl | rfl)
    · exact hb0 k h1
    · exact hb1
    · exact hb2
  · rintro e W2 ⟨⟨v, rfl⟩, xs, hS, own, oi, hi, ho, n0, n1, hl, hk⟩
    have hlt := (Array.getElem?_eq_some_iff.1 hl).1
    exact ⟨none, _, by have := run_endLoop (P := P) hl (by rw [hres]; simp); rw [hrec] at this; exact this, hdone xs oi _ hS (hI _ _ _ _ hi (chg_put ⟨n1, by omega⟩)) ((World.putObj_heap_other (by omega)).trans hk)⟩
end Go.Proofs.Ytdhcmnbajkpjiaa
/-
  Layer 38 (walk): the iterator of a subtree's steps.
-/
namespace Go.Proofs.Ytdhcmnbajkpjiaa
open Go.RowKit
open Go.Maps
set_option linter.unusedVariables false
set_option linter.unusedSimpArgs false
attribute [local go_sem] drewN_alloc drewN_setCell

variable {w0 w w' : World} {own : Nat → Prop} {Fb n : Nat} {S : FSt} {N : List Nat}
variable {up : List Int}
theorem app_listY {ops : Array Oper} {rest : List Oper} {o : Oper} {a : Act} {Q : Exit → Act → World → Prop} {w : World} (hgd : o.guard = none) (s x : Operand)
    (ho : o.op = .call { callee := .builtin .append, args := #[s, x], argTypes := #[27, 27] })
    (B : Nat) (v : Value) (l : List Int) (hsv : a.eval s = v) (hown : OwnI B w v l)
    (A : Option Addr) (m c : Nat) (l2 : List Int) (hx : a.eval x = .slice A m c) (hs : SrcS 1 w A m (cellsI l2)) (hlen : l.length + m ≤ 1048576) (hbase : B ≤ w.heap.size)
    (h : ∀ v' w', OwnI B w' v' (l ++ l2) → w.grownBy w' v.ownBlock → (v'.ownBlock = v.ownBlock ∨ v'.ownBlock = some w.heap.size) → wpList Try.prog ops Q rest (a.put o.dst v') w') : wpList Try.prog ops Q (o :: rest) a w := by
  obtain ⟨i, hi, hz, hsz, hby⟩ := infoInt
  refine wpList_append_S w hgd 1 (by decide) s x 27 ho B 3 i _ 8 Try.underlying27 hi hz hsz hby rfl v l.length _ hsv hown A m c _ hx hs (cellsI_one' l2) (by unfold maxLen; omega) (by omega) hbase (fun v' w' h2 h3 h4 => ?_)
  refine h v' w' ?_ h3 h4
  have hm : m = l2.length := by have := hs.1; simp only [cellsI, List.length_map] at this; omega
  unfold OwnI
  rw [cellsI_append, List.length_append, ← hm]
  exact h2
theorem OwnI.of_chg {B : Nat} {v : Value} {l : List Int} (h : OwnI B w v l) (hc : Chg own w w') (hn : ∀ k, v.ownBlock = some k → ¬ own k) : OwnI B w' v l := by
  refine ⟨h.1, ?_⟩
  rcases h.2 with ⟨rfl, e⟩ | ⟨g, cap, cur, rfl, hb, hg, r⟩
  · exact .inl ⟨rfl, e⟩
  · exact .inr ⟨g, cap, cur, rfl, hb, (hc.block g (Array.getElem?_eq_some_iff.1 hg).1 (hn g rfl)).trans hg, r⟩
/-- What stands behind a node among its parent's children. -/
def sibW (N : List Nat) (up : List Int) (c : Nat) : List Nat := (childN N up (up.getD c 0)).drop ((childN N up (up.getD c 0)).idxOf c + 1)
def restW (N : List Nat) (up : List Int) (st todo : List Nat) : List (Nat × Bool) := PW.rest (childW N up) (rkW N) (sibW N up) st todo
/-- The events of a node's subtree; none, if it is no node. -/
def evW (N : List Nat) (up : List Int) (x : Int) : List (Nat × Bool) := if 0 ≤ x ∧ x.toNat ∈ N then PW.ev (childW N up) (rkW N) x.toNat else []
/-- A stack, the last one first: each one is a child of the one behind it. -/
def StOk (N : List Nat) (up : List Int) : List Nat → Prop
  | [] => True
  | [s] => s ∈ N
  | s :: t :: st => s ∈ childW N up t ∧ StOk N up (t :: st)
theorem StOk.mem (hO : Ord N up) : ∀ {st : List Nat}, StOk N up st → ∀ s ∈ st, s ∈ N
  | [], _, _, hs => absurd hs (by simp)
  | [a], h, s, hs => by rw [List.mem_singleton] at hs; exact hs ▸ h
  | a :: b :: st, h, s, hs => by
    rw [List.mem_cons] at hs
    rcases hs with rfl | hs
    · exact ((hO.is.kp b s).1 h.1).1
    · exact StOk.mem hO h.2 s hs
theorem StOk.nodup (hO : Ord N up) : ∀ {st : List Nat}, StOk N up st → st.Nodup ∧ ∀ a b t, st = a :: t → b ∈ t → N.idxOf b < N.idxOf a
  | [], _ => ⟨List.nodup_nil, fun a b t e => by cases e⟩
  | [a], _ => ⟨by simp, fun x b t e hb => by cases e; exact absurd hb (by simp)⟩
  | a :: b :: st, h => by
    obtain ⟨h1, h2⟩ := StOk.nodup hO h.2
    have hk := (hO.is.kp b a).1 h.1
    have hlt := hO.is.hd a b hk.1 hk.2
    have key : ∀ c ∈ b :: st, N.idxOf c < N.idxOf a := fun c hc => by
      rw [List.mem_cons] at hc
      rcases hc with rfl | hc
      · exact hlt
      · exact Nat.lt_trans (h2 b c st rfl hc) hlt
    refine ⟨?_, fun x c t e hc => ?_⟩
    · rw [List.nodup_cons]; exact ⟨fun hm => by have := key a hm; omega, h1⟩
    · injection e with e1 e2; subst e1; subst e2; exact key c hc
theorem StOk.len (hO : Ord N up) {st : List Nat} (h : StOk N up st) : st.length ≤ N.length := List.Nodup.length_le_of_subset (StOk.nodup hO h).1 (fun s hs => h.mem hO s hs)
theorem StOk.tail {s : Nat} {st : List Nat} (h : StOk N up (s :: st)) : StOk N up st := by
  cases st with
  | nil => trivial
  | cons t st => exact h.2
/-- What waits is the rest of the last one's children. -/
def Waits (N : List Nat) (up : List Int) : List Nat → List Nat → Prop
  | [], todo => todo = []
  | s :: _, todo => ∃ j, todo = (childW N up s).drop j
theorem idx_drop {l : List Nat} (hn : l.Nodup) {j p : Nat} {r : List Nat} (e : l.drop j = p :: r) : p ∈ l ∧ l.drop (l.idxOf p + 1) = r := by
  have hj : j < l.length := by
    rcases Nat.lt_or_ge j l.length with h | h
    · exact h
    · rw [List.drop_eq_nil_of_le h] at e; cases e
  rw [List.drop_eq_getElem_cons hj] at e
  injection e with e1 e2
  have hi : l.idxOf p = j := by rw [← e1]; exact hn.idxOf_getElem j hj
  exact ⟨e1 ▸ List.getElem_mem hj, by rw [hi]; exact e2⟩
theorem child_sib (hO : Ord N up) {s p : Nat} (hp : p ∈ childW N up s) : sibW N up p = (childW N up s).drop ((childW N up s).idxOf p + 1) := by
  have h1 := parW_some.1 ((hO.is.kp s p).1 hp).2
  unfold sibW childW
  rw [h1]
theorem push_ok (hO : Ord N up) {s p : Nat} {st r : List Nat} (hs : StOk N up (s :: st)) (hw : Waits N up (s :: st) (p :: r)) :
    StOk N up (p :: s :: st) ∧ Waits N up (p :: s :: st) (childW N up p) ∧ restW N up (s :: st) (p :: r) = (p, true) :: restW N up (p :: s :: st) (childW N up p) := by
  obtain ⟨j, hj⟩ := hw
  have h1 := idx_drop (hO.is.nd s) hj.symm
  exact ⟨⟨h1.1, hs⟩, ⟨0, rfl⟩, PW.rest_push hO.is.hk (by rw [child_sib hO h1.1]; exact h1.2)⟩
theorem pop_ok (hO : Ord N up) {s : Nat} {st : List Nat} (hs : StOk N up (s :: st)) :
    restW N up (s :: st) [] = (s, false) :: restW N up st (if st = [] then [] else sibW N up s) ∧ Waits N up st (if st = [] then [] else sibW N up s) := by
  cases st with
  | nil => exact ⟨rfl, rfl⟩
  | cons t st => exact ⟨rfl, by rw [if_neg (by simp)]; exact ⟨_, child_sib hO hs.1⟩⟩
end Go.Proofs.Ytdhcmnbajkpjiaa
/-
  A scope from which the run jumps ahead to one label.
-/
namespace Go

theorem wp_scope_ahead {P : Program} {a : Act} {w : World} {Q : Exit → Act → World → Prop} {c rest : Code} (l : Nat) (hf : findLabel c l = some rest)
    (first : c.wp P (Exit.jump l (fun a' w' => rest.wp P (Exit.jump l (fun _ _ => False) Q) a' w') Q) a w) : (Code.scope c).wp P Q a w := by
  refine wp_scope_jumps l _ (fun _ _ => 0) hf first ?_
  intro a' w' h
  refine wp_mono h ?_
  intro e a2 w2 hq
  cases e <;> first | exact hq | exact ⟨hq.1, hq.2.elim⟩
end Go
/-
  Layer 38 (walk): the iterator gives the events of a subtree.
-/
namespace Go.Proofs.Ytdhcmnbajkpjiaa
open Go.RowKit
open Go.Maps
set_option linter.unusedVariables false
set_option linter.unusedSimpArgs false
attribute [local go_sem] drewN_alloc drewN_setCell

variable {w0 w w' : World} {own : Nat → Prop} {Fb n : Nat} {S : FSt} {N : List Nat} {up : List Int}
/-- What the walk holds between two rounds. -/
def StR (Fr : Nat → Prop) (base : Nat) (W : World) (N : List Nat) (up : List Int) (all : List (Nat × Bool)) (J : List (Nat × Bool) → (Nat → Prop) → World → Prop) (v i : Value) (wr : World) (st todo : List Nat) : Prop :=
  ∃ pre own, i = .int .i64 (PC.headD todo) ∧ OwnI base wr v (ints st.reverse) ∧ (∀ k, v.ownBlock = some k → ¬ own k) ∧ J pre own wr ∧ pre ++ restW N up st todo = all ∧ StOk N up st ∧ Waits N up st todo ∧ (∀ k, own k → Fr k) ∧ Chg Fr W wr
def StI (Fr : Nat → Prop) (base : Nat) (W : World) (N : List Nat) (up : List Int) (all : List (Nat × Bool)) (J : List (Nat × Bool) → (Nat → Prop) → World → Prop) (mm : Nat) (v i : Value) (wr : World) (k : Nat) : Prop :=
  ∃ s st todo, StR Fr base W N up all J v i wr (s :: st) todo ∧ (restW N up (s :: st) todo).length = k ∧ k ≤ mm
def StE (Fr : Nat → Prop) (base : Nat) (W : World) (N : List Nat) (up : List Int) (all : List (Nat × Bool)) (J : List (Nat × Bool) → (Nat → Prop) → World → Prop) (v i : Value) (wr : World) : Prop :=
  ∃ st todo, StR Fr base W N up all J v i wr st todo
theorem least {R : Nat → Prop} : ∀ k, R k → ∃ m, R m ∧ ∀ j, R j → m ≤ j := fun k => by
  induction k using Nat.strongRecOn with
  | ind k ih =>
    intro hk
    by_cases h : ∃ j, j < k ∧ R j
    · obtain ⟨j, h1, h2⟩ := h
      exact ih j h1 h2
    · exact ⟨k, hk, fun j hj => by
        rcases Nat.lt_or_ge j k with h1 | h1
        · exact absurd ⟨j, h1, hj⟩ h
        · exact h1⟩
theorem least_fun {A : Type} (R : A → Nat → Prop) : ∃ M : A → Nat, ∀ a k, R a k → M a ≤ k ∧ R a (M a) := by
  have h : ∀ a, ∃ m, ∀ k, R a k → m ≤ k ∧ R a m := fun a => by
    by_cases h : ∃ k, R a k
    · obtain ⟨k, hk⟩ := h
      obtain ⟨m, h1, h2⟩ := least k hk
      exact ⟨m, fun k hk => ⟨h2 k hk, h1⟩⟩
    · exact ⟨0, fun k hk => absurd ⟨k, hk⟩ h⟩
  exact ⟨fun a => Classical.choose (h a), fun a => Classical.choose_spec (h a)⟩
theorem headD_neg {l : List Nat} (h : PC.headD l < 0) : l = [] := by
  cases l with
  | nil => rfl
  | cons a l => have e : PC.headD (a :: l) = (a : Int) := rfl; omega
theorem first_eq (hi : FI n S.up S.O S.cl S.fr S.R) (rel : NRel n S N) {x : Nat} (hx : x ∈ N) : PC.headD (kidV S.O S.R (x : Int)) = PC.headD (childW N S.up x) := by
  have e := rel.kids hi (x : Int)
  rw [← e, if_pos (by unfold PC.place; rw [if_pos ⟨by omega, by simpa using hx⟩]; omega)]
  rfl
theorem next_eq (hi : FI n S.up S.O S.cl S.fr S.R) (rel : NRel n S N) {x : Nat} (hx : x ∈ N) : PC.nextV (n + 1) S.R (x : Int) = PC.headD (sibW N S.up x) := by
  rw [← rel.next hi]
  unfold nextN sibW
  rw [if_pos ⟨by omega, by simpa using hx⟩]
  simp only [Int.toNat_natCast]

set_option maxRecDepth 100000 in
set_option maxHeartbeats 8000000 in
theorem steps_iter {W : World} (x : Int) (base fb pb L K : Nat) (hK9 : (evW N S.up x).length ≤ K) (hO : Ord N S.up) (rel : NRel n S N) (h : ForestOver w0 W own Fb n S) (Fr : Nat → Prop) (hown : ∀ k, own k → ¬ Fr k) (hw0 : ∀ k, Fr k → w0.heap.size ≤ k) (hbs : base = W.heap.size) (hfn : ∀ k, base ≤ k → Fr k) (hnf : ¬ Fr fb) (hnp : ¬ Fr pb)
    (cf : W.cell? ⟨fb, 0, none⟩ = some (.pointer (some ⟨Fb, 0, none⟩))) (cp : W.cell? ⟨pb, 0, none⟩ = some (.int .i64 x)) (hfb : fb < W.heap.size) (hpb : pb < W.heap.size) :
    IterGivesY Try.prog 162 #[.pointer (some ⟨fb, 0, none⟩), .pointer (some ⟨pb, 0, none⟩)] (fun x : Nat × Bool => #[.int .i64 (x.1 : Int), .bool x.2]) (fun xs => xs = evW N S.up x) Fr L K W := by
  intro J own0 hJ hlt hY h0 hb0
  show Calls Try.prog 162 #[.func (.yield L) #[] #[], .pointer (some ⟨fb, 0, none⟩), .pointer (some ⟨pb, 0, none⟩)] W _
  have HJ := Lib.hid hJ
  have HLT := Lib.hid hlt
  have HY := Lib.hid hY
  have HF : Hid (∀ V, Chg Fr W V → ForestOver w0 V own Fb n S) := Lib.hid (fun V hb => h.of_own (fun k hk => hb.block k (h.fresh k hk).2 (hown k hk)) hb.size (h.below.trans (hb.below h.below.size hw0)))
  have HFN := Lib.hid hfn
  have hN := rel.le h.fi
  have HFI := Lib.hid h.fi
  have HC1 := Lib.hid cf
  have HC2 := Lib.hid cp
  have H0 := Lib.hid h0
  have HOB0 := Lib.hid hb0
  have K0 := Lib.hid (overf_Is x h)
  obtain ⟨all, hall⟩ : ∃ all, evW N S.up x = all := ⟨_, rfl⟩
  rw [hall] at hK9 ⊢
  have HA := Lib.hid hall
  clear hJ hlt hY h0 hb0 hall h hown hw0 hfn
  by_cases hx : 0 ≤ x ∧ x.toNat ∈ N
  · obtain ⟨p, rfl⟩ : ∃ p : Nat, x = (p : Int) := ⟨x.toNat, by omega⟩
    have hp : p ∈ N := by simpa using hx.2
    have HP := Lib.hid hp
    have e1 : decide ((p : Int) ∈ ints S.O) = true := decide_eq_true ((in_nodes rel _).2 hx)
    rw [e1] at K0
    have HE : Hid ([(p, true)] ++ restW N S.up [p] (childW N S.up p) = all) := Lib.hid (by
      rw [← HA.out]
      unfold evW
      rw [if_pos hx]
      exact (PW.rest_all hO.is.hk p).symm)
    clear hx e1 HA hp
    go_enter Try.func162, Try.ntmps162
    go_wp2
    refine wp_scope_ahead 0 (by rfl) ?_
    go_wp2_with fail
    refine K0.out.mono ?_
    rintro e w1 ⟨rfl, rfl⟩
    clear K0
    go_upto_region 2 with (fail)
    refine region_name ?_
    rintro V hV
    obtain ⟨V9, hV9⟩ : ∃ V9 : Value, (Value.slice (some ⟨W.heap.size, 0, none⟩) 1 1) = V9 := ⟨_, rfl⟩
    have bV : Below W.heap.size W V := by rw [hV]; exact (by repeat (first | exact Below.refl _ _ | assumption | refine bel_drew ?_ | refine bel_drewN ?_ _ | refine bel_alloc ?_ _ | refine bel_set ?_ (by first | (dsimp only; omega) | (simp; done) | (simp; omega)) _ | refine bel_trans ?_ (by assumption)))
    have HBV : Hid (Chg Fr W V) := Lib.hid (Chg.of_below bV)
    have HJV : Hid (J [] own0 V) := Lib.hid (HJ.out _ _ _ _ H0.out (Chg.of_below bV))
    have HOV : Hid (OwnI base V V9 (ints [p])) := Lib.hid (by
      rw [← hV9]
      refine OwnI.of_row (g := W.heap.size) (Nat.le_of_eq hbs) ?_ rfl (by omega)
      rw [hV]; exact World.alloc_heap_new _ _)
    have HNV : Hid (∀ k, V9.ownBlock = some k → ¬ own0 k) := Lib.hid (fun k e hk => by
      rw [← hV9] at e
      have e2 : W.heap.size = k := by injection e
      have := HLT.out _ _ _ H0.out k hk
      omega)
    have HOB := HOB0
    have HV9 := Lib.hid hV9
    clear hV bV hV9
    have v1 := (World.cell?_of_block (a := ⟨fb, 0, none⟩) (HBV.out.block fb hfb hnf)).trans HC1.out
    have v2 := (World.cell?_of_block (a := ⟨pb, 0, none⟩) (HBV.out.block pb hpb hnp)).trans HC2.out
    obtain ⟨fn, tmps, assign, body, hy, hR⟩ := HY.out [] (p, true) own0 V HJV.out (by have e9 := congrArg List.length HE.out; simp only [List.length_append, List.length_cons, List.length_nil] at e9 ⊢; omega) 0
    dsimp only at hy
    refine (wpIn_wide (n := 1)).1 ?_
    gi_wp2
    refine hR.mono ?_
    rintro e W3 ⟨rfl, hc3, ow3, hJ3, ho3⟩
    clear hR hy v1 v2
    have J3 := Lib.hid hJ3
    have O3 : Hid (OwnI base W3 V9 (ints [p])) := Lib.hid (HOV.out.of_chg hc3 HNV.out)
    have N3 : Hid (∀ k, V9.ownBlock = some k → ¬ ow3 k) := Lib.hid (fun k e hk => by
      rcases ho3 k hk with h1 | h1
      · exact HNV.out k e h1
      · have := (HOV.out.ltB k e).2; omega)
    have OB3 : Hid (∀ k, ow3 k → Fr k) := Lib.hid (fun k hk => by
      rcases ho3 k hk with h1 | h1
      · exact HOB.out k h1
      · exact HFN.out k (by have := HBV.out.size; omega))
    have B3 : Hid (Chg Fr W W3) := Lib.hid (HBV.out.trans (hc3.mono (fun k _ hk => HOB.out k hk)))
    have F3 := Lib.hid (HF.out _ B3.out)
    have d1 := (World.cell?_of_block (a := ⟨fb, 0, none⟩) (B3.out.block fb hfb hnf)).trans HC1.out
    have d2 := (World.cell?_of_block (a := ⟨pb, 0, none⟩) (B3.out.block pb hpb hnp)).trans HC2.out
    clear hc3 hJ3 ho3
    have KF := overf_First (p : Int) F3.out
    rw [first_eq HFI.out rel HP.out] at KF
    have K4 := Lib.hid KF
    clear KF
    gi_wp2
    go_wp2_with fail
    go_step3
    go_wp2_with fail
    refine K4.out.mono ?_
    rintro e w4 ⟨rfl, rfl⟩
    clear K4
    obtain ⟨M, hM⟩ := least_fun (fun (a : Value × Value × World) k => ∃ st todo, StR Fr base W N S.up all J a.1 a.2.1 a.2.2 st todo ∧ (restW N S.up st todo).length = k)
    have HM := Lib.hid hM
    clear hM
    go_wp2_with fail
    go_loopw [4, 5, 6] (fun v i z wr => StE Fr base W N S.up all J v i wr) (fun v i z wr => M (v, i, wr))
    case atStart => exact ⟨[p], childW N S.up p, [(p, true)], ow3, rfl, by rw [HV9.out]; exact O3.out, by rw [HV9.out]; exact N3.out, J3.out, HE.out, HP.out, ⟨0, rfl⟩, OB3.out, B3.out⟩
    case round =>
      obtain ⟨st0, todo0, hS0⟩ := hrel
      obtain ⟨-, st, todo, hS, hlen⟩ := HM.out (_, _, _) _ ⟨st0, todo0, hS0, rfl⟩
      dsimp only at hS
      obtain ⟨pre, ow, rfl, hO1, hN1, hJ1, hp1, hst, hwt, hob, hb1⟩ := hS
      clear hS0
      have hsl := hst.len hO
      cases st with
      | nil =>
        have hv0 : (ints ([] : List Nat).reverse).length = 0 := rfl
        obtain ⟨Av, cv, hv⟩ := own_shape hO1
        rw [hv0] at hv
        subst hv
        have HP9 : Hid (pre = all) := Lib.hid (by rw [← hp1]; exact (List.append_nil pre).symm)
        have HJ9 := Lib.hid hJ1
        clear hO1 hN1 hJ1 hp1 hst hwt hob hb1 hlen hv0 hsl
        go_wp2_with fail
        try simp only [Exit.jump]
        refine bodyPost_end (results_none rfl _ _ _) rfl ?_
        exact ⟨⟨_, rfl⟩, pre, HP9.out, ow, HJ9.out⟩
      | cons s st =>
        obtain ⟨mm, hmm⟩ : ∃ mm, (restW N S.up (s :: st) todo).length = mm := ⟨_, rfl⟩
        have HMM := Lib.hid (hlen.symm.trans hmm)
        have HR0 : Hid (StI Fr base W N S.up all J mm _ _ wr mm) := Lib.hid ⟨s, st, todo, ⟨pre, ow, rfl, hO1, hN1, hJ1, hp1, hst, hwt, hob, hb1⟩, hmm, Nat.le_refl _⟩
        obtain ⟨Av, cv, hv⟩ := own_shape hO1
        have hv2 : (ints (s :: st).reverse).length = st.length + 1 := by rw [ints_len]; simp
        rw [hv2] at hv
        subst hv
        have g0 : (0 : Int) < ((st.length + 1 : Nat) : Int) := by omega
        have g1 : ((st.length + 1 : Nat) : Int) = (st.length : Int) + 1 := by omega
        have g2 : (0 : Int) < (st.length : Int) + 1 := by omega
        obtain ⟨M2, hM2⟩ := least_fun (fun (a : Value × Value × World) k => StI Fr base W N S.up all J mm a.1 a.2.1 a.2.2 k)
        have HM2 := Lib.hid hM2
        clear hO1 hN1 hJ1 hp1 hst hwt hob hb1 hlen hmm hv2 hM2
        go_wp2_with fail
        go_loopw [4, 5] (fun v i wr => ∃ k, StI Fr base W N S.up all J mm v i wr k) (fun v i wr => M2 (v, i, wr))
        case atStart => exact ⟨mm, HR0.out⟩
        case round =>
          clear HR0
          obtain ⟨k0, hk0⟩ := hrel
          obtain ⟨-, s, st, todo, hS, hlen, hle⟩ := HM2.out (_, _, _) _ hk0
          clear hk0
          dsimp only at hS
          obtain ⟨pre, ow, rfl, hO1, hN1, hJ1, hp1, hst, hwt, hob, hb1⟩ := hS
          have HO1 := Lib.hid hO1
          obtain ⟨Av, cv, hv⟩ := own_shape hO1
          have hsl := hst.len hO
          have hmv : (ints (s :: st).reverse).length = st.length + 1 := by rw [ints_len]; simp
          rw [hmv] at hv
          have HMV := Lib.hid hmv
          have HN1 := Lib.hid hN1
          have HJ1 := Lib.hid hJ1
          have HP1 := Lib.hid hp1
          have HST := Lib.hid hst
          have HWT := Lib.hid hwt
          have HOB := Lib.hid hob
          have HB1 := Lib.hid hb1
          have HLEN := Lib.hid hlen
          have HLE := Lib.hid hle
          rw [List.length_cons] at hsl
          obtain ⟨nn, hnn⟩ : ∃ nn, st.length = nn := ⟨_, rfl⟩
          rw [hnn] at hv HMV hsl
          have HNN := Lib.hid hnn
          clear hO1 hN1 hJ1 hp1 hst hwt hob hb1 hlen hle hmv hnn
          subst hv
          cases todo with
          | nil =>
            have HK := Lib.hid (pop_ok hO HST.out)
            have hs : s ∈ N := HST.out.mem hO s (by simp)
            have HQ := Lib.hid hs
            obtain ⟨b, off, rfl, hb, hc⟩ := (HO1.out.intsV).2.2 (by rw [HMV.out]; omega)
            have x0 := hc nn (by rw [HMV.out]; omega)
            have ex : (ints (s :: st).reverse).getD nn 0 = (s : Int) := by rw [← HNN.out]; simp [ints]
            rw [ex] at x0
            obtain ⟨A8, c8, e8, -, c81, c82⟩ := HO1.out.ints
            have e9 : cv = c8 := by injection e8
            subst e9
            rw [HMV.out] at c81
            have e6 : (ints (s :: st).reverse).take nn = ints st.reverse := by
              rw [List.reverse_cons, ints_app, List.take_append_of_le_length (by rw [ints_len, List.length_reverse, HNN.out]; exact Nat.le_refl _), List.take_of_length_le (by rw [ints_len, List.length_reverse, HNN.out]; exact Nat.le_refl _)]
            have HO2 : Hid (OwnI base wr (.slice (some ⟨b, off, none⟩) nn cv) (ints st.reverse)) := Lib.hid (by
              have := OwnI.cut HO1.out nn (by rw [HMV.out]; omega) (by rw [HMV.out]; omega)
              rwa [e6] at this)
            obtain ⟨V9, hV9⟩ : ∃ V9 : Value, (Value.slice (some ⟨b, off, none⟩) nn cv) = V9 := ⟨_, rfl⟩
            have HV9 := Lib.hid hV9
            have HOV : Hid (OwnI base wr V9 (ints st.reverse)) := Lib.hid (hV9 ▸ HO2.out)
            have HNV : Hid (∀ k, V9.ownBlock = some k → ¬ ow k) := Lib.hid (fun k e => HN1.out k (by rw [← hV9] at e; exact e))
            have HJV := HJ1
            have HBV := HB1
            have HP2 : Hid ((pre ++ [(s, false)]) ++ restW N S.up st (if st = [] then [] else sibW N S.up s) = all) := Lib.hid (by rw [List.append_assoc, ← HP1.out, HK.out.1]; rfl)
            have HKL : Hid ((restW N S.up st (if st = [] then [] else sibW N S.up s)).length + 1 = (restW N S.up (s :: st) []).length) := Lib.hid (by rw [HK.out.1]; rfl)
            have k1 : ((nn + 1 : Nat) : Int) = (nn : Int) + 1 := by omega
            have wk : IntKind.i64.wrap ((nn : Int) + 1 - 1) = (nn : Int) := by rw [IntKind.wrap_i64]; omega
            have wk2 : IntKind.i64.wrap (nn : Int) = (nn : Int) := by rw [IntKind.wrap_i64]; omega
            have j0 : (0 : Int) ≤ (nn : Int) := by omega
            have j1 : (nn : Int) < (nn : Int) + 1 := by omega
            have j2 : (nn : Int) ≤ (cv : Int) := by omega
            have j3 : nn ≤ cv := by omega
            have e5 : PC.headD ([] : List Nat) = -1 := rfl
            rw [e5]
            clear hs hc ex e8 c81 c82 e6 hV9 e5
            go_upto_region 11 with (fail)
            have v1 := (World.cell?_of_block (a := ⟨fb, 0, none⟩) (HBV.out.block fb hfb hnf)).trans HC1.out
            have v2 := (World.cell?_of_block (a := ⟨pb, 0, none⟩) (HBV.out.block pb hpb hnp)).trans HC2.out
            obtain ⟨fn, tmps, assign, body, hy, hR⟩ := HY.out pre (s, false) ow wr HJV.out (by have e9 := congrArg List.length HP2.out; simp only [List.length_append, List.length_cons, List.length_nil] at e9 ⊢; omega) 0
            dsimp only at hy
            refine (wpIn_wide (n := 1)).1 ?_
            gi_wp2
            refine hR.mono ?_
            rintro e W3 ⟨rfl, hc3, ow3, hJ3, ho3⟩
            clear hR hy v1 v2
            have J3 := Lib.hid hJ3
            have O3 : Hid (OwnI base W3 V9 (ints st.reverse)) := Lib.hid (HOV.out.of_chg hc3 HNV.out)
            have N3 : Hid (∀ k, V9.ownBlock = some k → ¬ ow3 k) := Lib.hid (fun k e hk => by
              rcases ho3 k hk with h1 | h1
              · exact HNV.out k e h1
              · have := (HOV.out.ltB k e).2; omega)
            have OB3 : Hid (∀ k, ow3 k → Fr k) := Lib.hid (fun k hk => by
              rcases ho3 k hk with h1 | h1
              · exact HOB.out k h1
              · exact HFN.out k (by have := HBV.out.size; omega))
            have B3 : Hid (Chg Fr W W3) := Lib.hid (HBV.out.trans (hc3.mono (fun k _ hk => HOB.out k hk)))
            have F3 := Lib.hid (HF.out _ B3.out)
            have d1 := (World.cell?_of_block (a := ⟨fb, 0, none⟩) (B3.out.block fb hfb hnf)).trans HC1.out
            have d2 := (World.cell?_of_block (a := ⟨pb, 0, none⟩) (B3.out.block pb hpb hnp)).trans HC2.out
            clear hc3 hJ3 ho3
            clear x0
            cases st with
            | nil =>
              have h0 : nn = 0 := HNN.out.symm
              subst h0
              gi_wp2
              go_wp2_with fail
              have HREL : Hid (StR Fr base W N S.up all J V9 (.int .i64 (-1)) W3 [] []) := Lib.hid ⟨pre ++ [(s, false)], ow3, rfl, O3.out, N3.out, J3.out, HP2.out, trivial, rfl, OB3.out, B3.out⟩
              go_roundw
              case rel => exact ⟨[], [], by rw [← HV9.out] at HREL; exact HREL.out⟩
              case measure =>
                have h1 := (HM.out (_, _, _) _ ⟨[], [], HREL.out, rfl⟩).1
                rw [← HV9.out] at h1
                refine Nat.lt_of_le_of_lt h1 (Nat.lt_of_lt_of_le ?_ (Nat.le_of_eq HMM.out.symm))
                have h2 := HLEN.out
                have h3 := HKL.out
                have h4 := HLE.out
                simp only [if_pos] at h3
                omega
            | cons t st =>
              have KF := overf_Next (s : Int) F3.out
              rw [next_eq HFI.out rel HQ.out] at KF
              have K4 := Lib.hid KF
              clear KF
              have HIF : Hid ((if t :: st = [] then [] else sibW N S.up s) = sibW N S.up s) := Lib.hid (if_neg (by simp))
              rw [HIF.out] at HP2 HKL HK
              have HREL : Hid (StR Fr base W N S.up all J V9 (.int .i64 (PC.headD (sibW N S.up s))) W3 (t :: st) (sibW N S.up s)) := Lib.hid ⟨pre ++ [(s, false)], ow3, rfl, O3.out, N3.out, J3.out, HP2.out, HST.out.tail, HK.out.2, OB3.out, B3.out⟩
              have g7 : (0 : Int) < (nn : Int) := by have := HNN.out; simp only [List.length_cons] at this; omega
              gi_wp2
              go_wp2_with fail
              refine K4.out.mono ?_
              rintro e w4 ⟨rfl, rfl⟩
              clear K4
              go_wp2_with fail
              go_roundw
              case rel => exact ⟨t :: st, sibW N S.up s, by rw [← HV9.out] at HREL; exact HREL.out⟩
              case measure =>
                have h1 := (HM.out (_, _, _) _ ⟨t :: st, sibW N S.up s, HREL.out, rfl⟩).1
                rw [← HV9.out] at h1
                refine Nat.lt_of_le_of_lt h1 (Nat.lt_of_lt_of_le ?_ (Nat.le_of_eq HMM.out.symm))
                have h2 := HLEN.out
                have h3 := HKL.out
                have h4 := HLE.out
                omega
          | cons q r =>
            have HK := Lib.hid (push_ok hO HST.out HWT.out)
            have hq : q ∈ N := HK.out.1.mem hO q (by simp)
            have HQ := Lib.hid hq
            have e5 : PC.headD (q :: r) = (q : Int) := rfl
            rw [e5]
            have g5 : (0 : Int) ≤ (q : Int) := by omega
            have HT2 : Hid (ints (s :: st).reverse ++ [(q : Int)] = ints (q :: s :: st).reverse) := Lib.hid (by rw [List.reverse_cons (a := q), ints_app]; rfl)
            clear hq e5
            go_upto_region 7 with (at_builtin; refine app_listY rfl (.tmp 25) (.tmp 27) rfl base _ _ rfl (HO1.out.keep (bel_alloc (Below.refl _ _) _)) (some ⟨wr.heap.size, 0, none⟩) 1 1 [(q : Int)] rfl (src_oneI (by simp [go_sem])) (by rw [HMV.out]; omega) (by have := HB1.out.size; simp; omega) ?_; intro V9 V ho9 hg9 hb9; rw [HT2.out] at ho9; have HOV := Lib.hid ho9; have HGV := Lib.hid hg9; have HSV := Lib.hid hb9; clear ho9 hg9 hb9)
            have hle2 : base ≤ wr.heap.size := by have := HB1.out.size; omega
            have HJV : Hid (J pre ow V) := Lib.hid (HJ.out _ _ _ _ (HJ.out _ _ _ _ HJ1.out (Chg.of_below (bel_alloc (Below.refl _ _) _))) (Chg.of_grown HGV.out (fun k e => ⟨fun hk => HN1.out k e hk, by have := (HO1.out.ltB k e).1; omega⟩)))
            have HNV : Hid (∀ k, V9.ownBlock = some k → ¬ ow k) := Lib.hid (fun k e hk => by
              rcases HSV.out with h1 | h1
              · exact HN1.out k (h1 ▸ e) hk
              · rw [h1] at e
                have e2 := Option.some.inj e
                have := HLT.out _ _ _ HJ1.out k hk
                rw [← e2] at this
                simp at this; omega)
            have HBV : Hid (Chg Fr W V) := Lib.hid ((HB1.out.trans (Chg.of_below (bel_alloc (Below.refl _ _) _))).trans (Chg.of_grown HGV.out (fun g hg => HFN.out g (HO1.out.ltB g hg).1)))
            have HP2 : Hid ((pre ++ [(q, true)]) ++ restW N S.up (q :: s :: st) (childW N S.up q) = all) := Lib.hid (by rw [List.append_assoc, ← HP1.out, HK.out.2.2]; rfl)
            clear HGV HSV
            have v1 := (World.cell?_of_block (a := ⟨fb, 0, none⟩) (HBV.out.block fb hfb hnf)).trans HC1.out
            have v2 := (World.cell?_of_block (a := ⟨pb, 0, none⟩) (HBV.out.block pb hpb hnp)).trans HC2.out
            obtain ⟨fn, tmps, assign, body, hy, hR⟩ := HY.out pre (q, true) ow V HJV.out (by have e9 := congrArg List.length HP2.out; simp only [List.length_append, List.length_cons, List.length_nil] at e9 ⊢; omega) 0
            dsimp only at hy
            refine (wpIn_wide (n := 1)).1 ?_
            gi_wp2
            refine hR.mono ?_
            rintro e W3 ⟨rfl, hc3, ow3, hJ3, ho3⟩
            clear hR hy v1 v2
            have J3 := Lib.hid hJ3
            have O3 : Hid (OwnI base W3 V9 (ints (q :: s :: st).reverse)) := Lib.hid (HOV.out.of_chg hc3 HNV.out)
            have N3 : Hid (∀ k, V9.ownBlock = some k → ¬ ow3 k) := Lib.hid (fun k e hk => by
              rcases ho3 k hk with h1 | h1
              · exact HNV.out k e h1
              · have := (HOV.out.ltB k e).2; omega)
            have OB3 : Hid (∀ k, ow3 k → Fr k) := Lib.hid (fun k hk => by
              rcases ho3 k hk with h1 | h1
              · exact HOB.out k h1
              · exact HFN.out k (by have := HBV.out.size; omega))
            have B3 : Hid (Chg Fr W W3) := Lib.hid (HBV.out.trans (hc3.mono (fun k _ hk => HOB.out k hk)))
            have F3 := Lib.hid (HF.out _ B3.out)
            have d1 := (World.cell?_of_block (a := ⟨fb, 0, none⟩) (B3.out.block fb hfb hnf)).trans HC1.out
            have d2 := (World.cell?_of_block (a := ⟨pb, 0, none⟩) (B3.out.block pb hpb hnp)).trans HC2.out
            clear hc3 hJ3 ho3
            have KF := overf_First (q : Int) F3.out
            rw [first_eq HFI.out rel HQ.out] at KF
            have K4 := Lib.hid KF
            clear KF
            have HKL : Hid ((restW N S.up (q :: s :: st) (childW N S.up q)).length + 1 = (restW N S.up (s :: st) (q :: r)).length) := Lib.hid (by rw [HK.out.2.2]; rfl)
            have HREL : Hid (StI Fr base W N S.up all J mm V9 (.int .i64 (PC.headD (childW N S.up q))) W3 (restW N S.up (q :: s :: st) (childW N S.up q)).length) := Lib.hid ⟨q, s :: st, childW N S.up q, ⟨pre ++ [(q, true)], ow3, rfl, O3.out, N3.out, J3.out, HP2.out, HK.out.1, HK.out.2.1, OB3.out, B3.out⟩, rfl, by have := HKL.out; have := HLEN.out; have := HLE.out; omega⟩
            gi_wp2
            go_wp2_with fail
            refine K4.out.mono ?_
            rintro e w4 ⟨rfl, rfl⟩
            clear K4
            go_wp2_with fail
            go_roundw
            case rel => exact ⟨_, HREL.out⟩
            case measure =>
              have h1 := (HM2.out (_, _, _) _ HREL.out).1
              have h2 := HLEN.out
              have h3 := HKL.out
              rw [h2] at h3
              exact Nat.lt_of_le_of_lt h1 (by show _ < M2 (_, Value.int .i64 (PC.headD (q :: r)), _); rw [← h3]; exact Nat.lt_succ_self _)
  · have e1 : decide (x ∈ ints S.O) = false := decide_eq_false (fun hh => hx ((in_nodes rel x).1 hh))
    rw [e1] at K0
    have HE : Hid ([] = all) := Lib.hid (by rw [← HA.out]; unfold evW; rw [if_neg hx])
    clear hx e1 HA
    go_enter Try.func162, Try.ntmps162
    go_wp2
    refine wp_scope_ahead 0 (by rfl) ?_
    go_wp2_with fail
    refine K0.out.mono ?_
    rintro e w1 ⟨rfl, rfl⟩
    clear K0
    go_wp2_with fail
    simp only [Exit.jump]
    refine bodyPost_ret (results_none rfl _ _ _) rfl ?_
    exact ⟨⟨_, rfl⟩, [], HE.out, own0, H0.out⟩
end Go.Proofs.Ytdhcmnbajkpjiaa
/-
  Layer 38 (walk): the function that walk.steps returns.
-/
namespace Go.Proofs.Ytdhcmnbajkpjiaa
open Go.RowKit
open Go.Maps
set_option linter.unusedVariables false
set_option linter.unusedSimpArgs false
attribute [local go_sem] drewN_alloc drewN_setCell

theorem walk_steps (Fb : Nat) (x : Int) (w : World) : Calls Try.prog 153 #[.pointer (some ⟨Fb, 0, none⟩), .int .i64 x] w fun e w' => e = .returned (.func (.func 162) #[] #[.pointer (some ⟨w.heap.size, 0, none⟩), .pointer (some ⟨w.heap.size + 1, 0, none⟩)]) ∧
    (w.alloc (.cells #[.pointer (some ⟨Fb, 0, none⟩)] 52)).alloc (.cells #[.int .i64 x] 3) = w' := by
  go_enter Try.func153, Try.ntmps153
  go_wp2_with fail
  go_ret
  exact ⟨rfl, rfl⟩
/-- What the caller's cells hold between two rounds: the slice of what was picked. -/
def WhI (w : World) (s : Nat) (come : Bool) (xs : List (Nat × Bool)) (own : Nat → Prop) (X : World) : Prop :=
  ∃ v, X.cell? ⟨s, 0, none⟩ = some v ∧ X.frozen? ⟨s, 0, none⟩ = false ∧ OwnI (s + 1) X v (ints (PW.pick come xs)) ∧ own s ∧ (∀ k, v.ownBlock = some k → own k) ∧ (∀ k, own k → k < X.heap.size)
theorem WhI.step {w : World} {s : Nat} {come : Bool} {xs : List (Nat × Bool)} {own : Nat → Prop} {A B : World} (h : WhI w s come xs own A) (hc : Chg (fun k => ¬ own k) A B) : WhI w s come xs own B := by
  obtain ⟨v, h1, h2, h3, h4, h5, h6⟩ := h
  have hb := hc.block s (h6 s h4) (fun hh => hh h4)
  exact ⟨v, (World.cell?_of_block (a := ⟨s, 0, none⟩) hb).trans h1, (World.frozen?_of_block (a := ⟨s, 0, none⟩) hb).trans h2, h3.of_chg hc (fun k e hh => hh (h5 k e)), h4, h5, fun k hk => Nat.lt_of_lt_of_le (h6 k hk) hc.size⟩
end Go.Proofs.Ytdhcmnbajkpjiaa
/-
  Layer 38 (walk): which picks the events of a subtree.
-/
namespace Go.Proofs.Ytdhcmnbajkpjiaa
open Go.RowKit
open Go.Maps
set_option linter.unusedVariables false
set_option linter.unusedSimpArgs false
attribute [local go_sem] drewN_alloc drewN_setCell Oper.semAt_some

variable {w0 w w' : World} {own : Nat → Prop} {Fb n : Nat} {S : FSt} {N : List Nat}
theorem pick_len : ∀ l : List (Nat × Bool), (PW.pick true l).length + (PW.pick false l).length = l.length
  | [] => rfl
  | (a, b) :: l => by
    have := pick_len l
    rw [PW.pick_cons, PW.pick_cons]
    cases b <;> simp <;> omega
theorem ev_len {N : List Nat} {up : List Int} (hO : Ord N up) (hN : N.length ≤ 4096) (x : Int) : (evW N up x).length ≤ 8192 := by
  unfold evW
  split
  · rename_i h
    rw [← pick_len]
    have h1 := PW.pre_len hO.is h.2
    have h2 := PW.len_post hO.is.hk x.toNat
    unfold PW.pre at h1 h2
    unfold PW.post at h2
    omega
  · exact Nat.zero_le _
theorem app_listIn {F : Fence} {n : Nat} {ops : Array Oper} {rest : List Oper} {o : Oper} {a : Act} {Q : Exit → Act → World → Prop} {w : World} (hgd : o.guard = none) (s x : Operand)
    (ho : o.op = .call { callee := .builtin .append, args := #[s, x], argTypes := #[27, 27] })
    (B : Nat) (v : Value) (l : List Int) (hsv : a.eval s = v) (hown : OwnI B w v l)
    (A : Option Addr) (m c : Nat) (l2 : List Int) (hx : a.eval x = .slice A m c) (hs : SrcS 1 w A m (cellsI l2)) (hlen : l.length + m ≤ 1048576) (hbase : B ≤ w.heap.size)
    (h : ∀ v' w', OwnI B w' v' (l ++ l2) → w.grownBy w' v.ownBlock → (v'.ownBlock = v.ownBlock ∨ v'.ownBlock = some w.heap.size) → wpListIn F n Try.prog ops Q rest (a.put o.dst v') w') : wpListIn F n Try.prog ops Q (o :: rest) a w := by
  obtain ⟨i, hi, hz, hsz, hby⟩ := infoInt
  refine wpListIn_plain hgd fun K hK' => ?_
  obtain ⟨v', w', hrun, r1, r2, r3⟩ := run_append_S (P := Try.prog) w 1 (by decide) B 27 o.type 3 i _ 8 Try.underlying27 hi hz hsz hby rfl v l.length _ hown A m c _ hs (cellsI_one' l2) (by unfold maxLen; omega) (by omega) hbase
  unfold Oper.wpIn
  refine ⟨?_, ?_⟩
  · simp [Oper.about, ho, resolve, Target.leads, Sem.run_pure]
  · rw [Oper.semAt_plain F _ _ (by rw [ho]; intro c hc'; cases hc')]
    simp only [execOp, ho, resolve, invoke, builtin, Sem.run_bind, Sem.run_pure, Result.andThen_ok, List.map_toArray, List.map_cons, List.map_nil, hsv, hx, hrun]
    refine hK' _ _ (h v' w' ?_ r2 r3)
    have hm : m = l2.length := by have := hs.1; simp only [cellsI, List.length_map] at this; omega
    unfold OwnI
    rw [cellsI_append, List.length_append, ← hm]
    exact r1
theorem pick_le (b : Bool) (l : List (Nat × Bool)) : (PW.pick b l).length ≤ l.length := by
  have := pick_len l
  cases b <;> omega
set_option maxRecDepth 100000 in
set_option maxHeartbeats 8000000 in
theorem walk_whichO (x : Int) (come : Bool) (hO : Ord N S.up) (rel : NRel n S N) (h : ForestOver w0 w own Fb n S) :
    Calls Try.prog 133 #[.pointer (some ⟨Fb, 0, none⟩), .int .i64 x, .bool come] w (GivesOwnI w (ints (PW.pick come (evW N S.up x)))) := by
  have HF := Lib.hid h
  clear h
  refine callsIn_wide (n := 3) |>.1 ?_
  refine callsIn_of_wp_marks Try.func133 rfl trivial ?_ rfl
  simp only [Try.ntmps133, List.size_toArray, List.length_cons, List.length_nil, Nat.reduceAdd, Nat.reduceSub, Array.replicate_succ, Array.replicate_zero, List.push_toArray, List.append_toArray, List.nil_append, List.cons_append]
  refine wpIn_wide.2 ?_
  go_wp2_with fail
  refine (walk_steps Fb x _).mono ?_
  rintro e w2 ⟨rfl, hw2⟩
  go_wp2_with fail
  obtain ⟨s, hs⟩ : ∃ s, w.heap.size = s := ⟨_, rfl⟩
  have hs2 : w2.heap.size = s + 4 := by rw [← hw2, ← hs]; simp
  have hB2 : Below w.heap.size w w2 := by rw [← hw2]; exact (by repeat (first | exact Below.refl _ _ | assumption | refine bel_drew ?_ | refine bel_drewN ?_ _ | refine bel_alloc ?_ _ | refine bel_set ?_ (by first | (dsimp only; omega) | (simp; done) | (simp; omega)) _ | refine bel_trans ?_ (by assumption)))
  have cc : w2.cell? ⟨s, 0, none⟩ = some (.bool come) := by rw [← hw2, ← hs]; simp [go_sem]
  have co : w2.cell? ⟨s + 1, 0, none⟩ = some (.slice none 0 0) := by rw [← hw2, ← hs]; simp [go_sem]
  have cof : w2.frozen? ⟨s + 1, 0, none⟩ = false := by rw [← hw2, ← hs]; simp [go_sem]
  have cf : w2.cell? ⟨s + 2, 0, none⟩ = some (.pointer (some ⟨Fb, 0, none⟩)) := by rw [← hw2, ← hs]; simp [go_sem]
  have cp : w2.cell? ⟨s + 3, 0, none⟩ = some (.int .i64 x) := by rw [← hw2, ← hs]; simp [go_sem]
  rw [hs]
  have HF2 : Hid (∀ W, Below w2.heap.size w2 W → ForestOver w0 W own Fb n S) := Lib.hid (fun W hW => (HF.out.keep hB2).keep hW)
  have hfl : Hid (∀ k, own k → k < s) := Lib.hid (fun k hk => by rw [← hs]; exact (HF.out.fresh k hk).2)
  have hw0 : Hid (w0.heap.size ≤ s) := Lib.hid (by rw [← hs]; exact HF.out.below.size)
  have hs0 := hs
  clear hw2 hs
  refine (wpIn_wide (n := 3)).1 ?_
  refine range_plainY (gf := 162) (lb := #[.pointer (some ⟨s + 1 + 1, 0, none⟩), .pointer (some ⟨s + 1 + 1 + 1, 0, none⟩)]) (encs := fun x : Nat × Bool => #[.int .i64 (x.1 : Int), .bool x.2]) rfl (fun args w => by simp [go_sem]) (fun x => rfl)
    (fun xs own X => WhI w (s + 1) come xs own X ∧ own s ∧ X.cell? ⟨s, 0, none⟩ = some (.bool come) ∧ Below s w X ∧ ∀ k, own k → s ≤ k) (fun xs => xs = evW N S.up x) (fun k => k = s ∨ k = s + 1) (fun k => s ≤ k ∧ k ≠ s + 2 ∧ k ≠ s + 3) 8192 ?_ ?_ ?_ ?_ ?_ ?_ ?_ ?_
    (fun y => { tmps := #[.pointer (some ⟨Fb, 0, none⟩), .int .i64 x, .bool come, undef, undef, .pointer (some ⟨s, 0, none⟩), .slice none 0 0, .pointer (some ⟨s + 1, 0, none⟩), .int .i64 (y.1 : Int), .bool y.2, .pointer (some ⟨Fb, 0, none⟩), .int .i64 x, .func (.func 162) #[] #[.pointer (some ⟨s + 1 + 1, 0, none⟩), .pointer (some ⟨s + 1 + 1 + 1, 0, none⟩)], .int .i64 (y.1 : Int), .bool y.2, undef, undef, undef, undef, undef, undef, undef, undef], defers := [] }) ?_ ?_ ?_
  · rintro xs ow A B ⟨h1, h2, h3, h4, h5⟩ hc
    have hb := hc.block s (by obtain ⟨v, _, _, _, _, _, h6⟩ := h1; exact h6 s h2) (fun hh => hh.1 h2)
    exact ⟨h1.step (hc.mono (fun k _ hk => hk.1)), h2, (World.cell?_of_block (a := ⟨s, 0, none⟩) hb).trans h3, h4.trans (hc.below (by have := h4.size; omega) (fun k hk => by omega)), h5⟩
  · rintro xs ow A ⟨⟨v, _, _, _, _, _, h6⟩, _⟩ k hk
    exact h6 k hk
  · rintro k (rfl | rfl) <;> omega
  · rw [hs2]; omega
  · rw [hs2]; omega
  · rintro k (rfl | rfl) <;> omega
  · intro o
    have bW : Below w2.heap.size w2 ((w2.alloc (.deferred (some []))).alloc o) := (by repeat (first | exact Below.refl _ _ | assumption | refine bel_drew ?_ | refine bel_drewN ?_ _ | refine bel_alloc ?_ _ | refine bel_set ?_ (by first | (dsimp only; omega) | (simp; done) | (simp; omega)) _ | refine bel_trans ?_ (by assumption)))
    have sW := bW.size
    refine ⟨⟨_, (bW.cell (p := ⟨s + 1, 0, none⟩) (by dsimp only; omega)).trans co, (bW.frozen (p := ⟨s + 1, 0, none⟩) (by dsimp only; omega)).trans cof, OwnI.nil _ _, .inr rfl, fun k e => (by cases e), ?_⟩, .inl rfl, (bW.cell (p := ⟨s, 0, none⟩) (by dsimp only; omega)).trans cc, (hB2.mono (Nat.le_of_eq hs0.symm)).trans (bW.mono (by omega)), ?_⟩
    · rintro k (rfl | rfl) <;> omega
    · rintro k (rfl | rfl) <;> omega
  · intro o
    obtain ⟨W, hW⟩ : ∃ W, (w2.alloc (.deferred (some []))).alloc o = W := ⟨_, rfl⟩
    rw [hW]
    have hbW : Below w2.heap.size w2 W := by rw [← hW]; exact (by repeat (first | exact Below.refl _ _ | assumption | refine bel_drew ?_ | refine bel_drewN ?_ _ | refine bel_alloc ?_ _ | refine bel_set ?_ (by first | (dsimp only; omega) | (simp; done) | (simp; omega)) _ | refine bel_trans ?_ (by assumption)))
    have sW : W.heap.size = s + 6 := by rw [← hW]; simp [hs2]
    exact steps_iter x (s + 6) (s + 2) (s + 3) (w2.heap.size + 1) 8192 (ev_len hO (rel.le HF.out.fi) x) hO rel (HF2.out W hbW) _ (fun k hk => by have := hfl.out k hk; omega) (fun k hk => Nat.le_trans hw0.out hk.1) (by omega) (fun k hk => by omega) (by omega) (by omega)
      ((hbW.cell (p := ⟨s + 2, 0, none⟩) (by dsimp only; omega)).trans cf) ((hbW.cell (p := ⟨s + 3, 0, none⟩) (by dsimp only; omega)).trans cp) (by omega) (by omega)
  · intro L m y W K hK
    gi_wp2
    exact hK
  · rintro L m pre y ow X ⟨hI, h2, h3, h4, h5⟩ hn0 hn1 hlt hpl
    obtain ⟨v, c1, f1, o1, ho, hv, hk⟩ := hI
    clear co cof cf cp cc hB2
    by_cases hy : y.2 = come
    · have e1 : (y.2 == come) = true := by simpa using hy
      have e2 : PW.pick come (pre ++ [y]) = PW.pick come pre ++ [y.1] := by rw [PW.pick_app, PW.pick_cons, if_pos hy]; simp [PW.pick_nil]
      have hDl := pick_le come pre
      obtain ⟨D, hD⟩ : ∃ D, PW.pick come pre = D := ⟨_, rfl⟩
      rw [hD] at o1 e2 hDl
      have HE2 := Lib.hid e2
      have hln : (ints D).length + 1 ≤ 1048576 := by rw [ints_len]; omega
      obtain ⟨A1, d1, hv9⟩ := own_shape o1
      subst hv9
      have HO1 := Lib.hid o1
      have HO := Lib.hid (o1.keep (bel_alloc (Below.refl X.heap.size X) (.cells #[.int .i64 (y.1 : Int)] 3)))
      have hl1 : s + 1 < X.heap.size := hk _ ho
      have HV := Lib.hid hv
      have HK := Lib.hid hk
      have HOW := Lib.hid (And.intro ho h2)
      have H4 := Lib.hid h4
      have H5 := Lib.hid h5
      obtain ⟨dl, hdl⟩ : ∃ dl, (ints D).length = dl := ⟨_, rfl⟩
      rw [hdl] at c1 HO HO1 HV hln
      have HDL := Lib.hid hdl
      have HNE : Hid (some (s + 1) ≠ (Value.slice A1 dl d1).ownBlock) := Lib.hid (fun e => by have := (HO1.out.ltB _ e.symm).1; omega)
      clear o1 ho hv hk hn0 hn1 e2 hy h2 h4 h5 hD hDl hdl hpl
      gi_wp2_with (gi_at_builtin; (refine app_listIn rfl (.tmp 18) (.tmp 20) rfl (s + 1 + 1) _ (ints D) rfl HO.out (some ⟨X.heap.size, 0, none⟩) 1 1 [(y.1 : Int)] rfl (src_oneI (by simp [go_sem])) (by rw [HDL.out]; exact hln) (by simp; omega) ?_; intro v' w' ho hg hor; obtain ⟨A2, d2, rfl, _⟩ := ho.ints; have HG : Hid ((X.alloc (.cells #[.int .i64 (y.1 : Int)] 3)).grownBy w' (Value.slice A1 dl d1).ownBlock) := Lib.hid hg; have c2 := HG.out.cell (cell_alloc (.cells #[.int .i64 (y.1 : Int)] 3) hl1 c1) HNE.out; have f2 := (HG.out.frozen_far ⟨s + 1, 0, none⟩ (by simp; omega) HNE.out).trans (frozen_alloc (.cells #[.int .i64 (y.1 : Int)] 3) hl1 f1); have HOR : Hid ((Value.slice A2 (ints D ++ [(y.1 : Int)]).length d2).ownBlock = (Value.slice A1 dl d1).ownBlock ∨ (Value.slice A2 (ints D ++ [(y.1 : Int)]).length d2).ownBlock = some (X.alloc (.cells #[.int .i64 (y.1 : Int)] 3)).heap.size) := Lib.hid hor; have HOO := Lib.hid ho; clear ho hg hor))
      have hl : (ints D ++ [(y.1 : Int)]).length = (ints D).length + 1 := by simp
      rw [hl] at HOO HOR
      clear hl
      obtain ⟨V, hV⟩ : ∃ V, Value.slice A2 ((ints D).length + 1) d2 = V := ⟨_, rfl⟩
      rw [hV] at HOO HOR ⊢
      have HT2 : Hid (ints D ++ [(y.1 : Int)] = ints (PW.pick come (pre ++ [y]))) := Lib.hid (by rw [HE2.out, ints_app]; rfl)
      have hcg : Chg ow X (w'.setCell ⟨s + 1, 0, none⟩ V) := ((Chg.of_below (bel_alloc (Below.refl _ _) _)).trans ((Chg.of_grown (own := ow) HG.out (fun k e => HV.out k e)))).set HOW.out.1 V
      have hs9 := HG.out.size
      simp only [World.size_alloc] at hs9
      have hVk : ∀ k, V.ownBlock = some k → ow k ∨ X.heap.size ≤ k := fun k e => by
        rcases HOR.out with h | h
        · exact .inl (HV.out k (h.symm.trans e))
        · rw [h] at e; have := Option.some.inj e; simp at this; omega
      have hso : s < X.heap.size := by omega
      have hvs : some s ≠ (Value.slice A1 dl d1).ownBlock := fun e => by have := (HO1.out.ltB _ e.symm).1; omega
      refine ⟨hcg, fun k => ow k ∨ V.ownBlock = some k, ⟨⟨V, World.cell?_setCell_same _ _ _ c2, by rw [World.frozen?_setCell]; exact f2, ?_, .inl HOW.out.1, fun k e => .inr e, fun k hk => ?_⟩, .inl HOW.out.2, ?_, ?_, fun k hk => ?_⟩, fun k hk => ?_⟩
      · rw [← HT2.out]
        exact HOO.out.keepSet _ _ (by dsimp only; omega)
      · rw [World.size_setCell]
        rcases hk with h | h
        · have := HK.out k h; omega
        · exact (HOO.out.ltB k h).2
      · exact ((World.cell?_setCell_far _ _ _ _ (by dsimp only; omega)).trans (HG.out.cell (cell_alloc (.cells #[.int .i64 (y.1 : Int)] 3) hso h3) hvs))
      · refine H4.out.trans (hcg.below (by omega) (fun k hk => H5.out k hk))
      · rcases hk with h | h
        · exact H5.out k h
        · have := (HOO.out.ltB k h).1; omega
      · rcases hk with h | h
        · exact .inl h
        · exact hVk k h
    · have e1 : (y.2 == come) = false := by simpa using hy
      have e2 : PW.pick come (pre ++ [y]) = PW.pick come pre := by rw [PW.pick_app, PW.pick_cons, if_neg hy]; simp [PW.pick_nil]
      have HR : Hid (goesOnY (fun xs own X => WhI w (s + 1) come xs own X ∧ own s ∧ X.cell? ⟨s, 0, none⟩ = some (.bool come) ∧ Below s w X ∧ ∀ k, own k → s ≤ k) (pre ++ [y]) ow X .normal { tmps := #[], defers := [] } X) := Lib.hid ⟨Chg.refl _ _, ow, ⟨⟨v, c1, f1, by rw [e2]; exact o1, ho, hv, hk⟩, h2, h3, h4, h5⟩, fun k hk => .inl hk⟩
      clear c1 f1 o1 ho hv hk hn0 hn1 e2 hy h2
      gi_wp2
      exact HR.out
  · rintro xs ow X rfl ⟨⟨v, c1, f1, o1, ho, hv, hk⟩, h2, h3, h4, h5⟩ hd
    rw [hs2] at hd ⊢
    obtain ⟨A1, c2, rfl, _⟩ := o1.ints
    have hl9 : (ints (PW.pick come (evW N S.up x))).length ≤ 9223372036854775807 := by
      obtain ⟨A2, c3, e8, hA, h8, h9⟩ := o1.ints
      omega
    have hne : ∀ k, (Value.slice A1 (ints (PW.pick come (evW N S.up x))).length c2).ownBlock = some k → k ≠ s + 4 := fun k e hk => by
      rcases o1.2 with ⟨e1, _⟩ | ⟨g, cap, cur, e1, hb, hg, _⟩
      · rw [e1] at e; cases e
      · rw [e1] at e
        have e2 : g = k := by injection e
        rw [e2, hk, hd] at hg
        cases hg
    have hfin : Hid (OwnI (s + 1) (X.putObj (s + 4) (.deferred none)) (.slice A1 (ints (PW.pick come (evW N S.up x))).length c2) (ints (PW.pick come (evW N S.up x))) ∧ Below w.heap.size w (X.putObj (s + 4) (.deferred none))) := Lib.hid
      ⟨(o1.of_chg (own := fun k => k = s + 4) (chg_put rfl) hne).mono (by omega), by rw [hs0]; exact h4.trans ((chg_put (own := fun k => k = s + 4) (A := X) rfl).below (by have := h4.size; omega) (fun k hk => by omega))⟩
    clear o1 hv h4 h5 co cof cf cp cc hB2 hne
    go_wp2_with fail
    refine ⟨by simp, .inl ⟨_, _, rfl, run_takeDeferred hd, ?_⟩⟩
    exact ⟨_, by simp [results, Try.results133, go_sem], _, rfl, hfin.out.1.mono (by omega), hfin.out.2⟩
theorem walk_which (x : Int) (come : Bool) (hO : Ord N S.up) (rel : NRel n S N) (h : ForestOver w0 w own Fb n S) :
    Calls Try.prog 133 #[.pointer (some ⟨Fb, 0, none⟩), .int .i64 x, .bool come] w (GivesInts w (ints (PW.pick come (evW N S.up x)))) :=
  (walk_whichO x come hO rel h).mono fun e w' hh => hh.gives
end Go.Proofs.Ytdhcmnbajkpjiaa
/-
  Layer 38 (walk): Pre, Post, Size.
-/
namespace Go.Proofs.Ytdhcmnbajkpjiaa
open Go.RowKit
open Go.Maps
set_option linter.unusedVariables false
set_option linter.unusedSimpArgs false
attribute [local go_sem] drewN_alloc drewN_setCell

variable {w0 w w' : World} {own : Nat → Prop} {Fb n : Nat} {S : FSt} {N : List Nat}
/-- Both orders of any number's subtree. -/
def preW (N : List Nat) (up : List Int) (x : Int) : List Nat := PW.pick true (evW N up x)
def postW (N : List Nat) (up : List Int) (x : Int) : List Nat := PW.pick false (evW N up x)
theorem preW_no {N : List Nat} {up : List Int} {x : Int} (hx : ¬ (0 ≤ x ∧ x.toNat ∈ N)) : preW N up x = [] := by unfold preW evW; rw [if_neg hx]; rfl
theorem postW_no {N : List Nat} {up : List Int} {x : Int} (hx : ¬ (0 ≤ x ∧ x.toNat ∈ N)) : postW N up x = [] := by unfold postW evW; rw [if_neg hx]; rfl
theorem preW_yes {N : List Nat} {up : List Int} {x : Int} (hx : 0 ≤ x ∧ x.toNat ∈ N) : preW N up x = PW.pre (childW N up) (rkW N) x.toNat := by unfold preW evW; rw [if_pos hx]; rfl
theorem postW_yes {N : List Nat} {up : List Int} {x : Int} (hx : 0 ≤ x ∧ x.toNat ∈ N) : postW N up x = PW.post (childW N up) (rkW N) x.toNat := by unfold postW evW; rw [if_pos hx]; rfl
theorem preW_len {N : List Nat} {up : List Int} (hO : Ord N up) (x : Int) : (preW N up x).length ≤ N.length := by
  by_cases hx : 0 ≤ x ∧ x.toNat ∈ N
  · rw [preW_yes hx]; exact PW.pre_len hO.is hx.2
  · rw [preW_no hx]; exact Nat.zero_le _
theorem postW_len {N : List Nat} {up : List Int} (hO : Ord N up) (x : Int) : (postW N up x).length = (preW N up x).length := by
  by_cases hx : 0 ≤ x ∧ x.toNat ∈ N
  · rw [preW_yes hx, postW_yes hx]; exact PW.len_post hO.is.hk _
  · rw [preW_no hx, postW_no hx]

theorem walk_PreO (x : Int) (hO : Ord N S.up) (rel : NRel n S N) (h : ForestOver w0 w own Fb n S) :
    Calls Try.prog 72 #[.pointer (some ⟨Fb, 0, none⟩), .int .i64 x] w (GivesOwnI w (ints (preW N S.up x))) := by
  have K := Lib.hid (walk_whichO x true hO rel h)
  unfold preW
  obtain ⟨l, hl⟩ : ∃ l, PW.pick true (evW N S.up x) = l := ⟨_, rfl⟩
  rw [hl] at K ⊢
  clear h hl rel hO
  go_enter Try.func72, Try.ntmps72
  go_wp2_with fail
  refine K.out.mono ?_
  rintro e w1 ⟨v1, rfl, h1, b1⟩
  have H1 := Lib.hid h1
  obtain ⟨A1, c1, rfl, -⟩ := h1.ints
  clear K h1
  go_wp2_with fail
  go_ret
  exact ⟨_, rfl, H1.out, b1⟩
theorem walk_Pre (x : Int) (hO : Ord N S.up) (rel : NRel n S N) (h : ForestOver w0 w own Fb n S) :
    Calls Try.prog 72 #[.pointer (some ⟨Fb, 0, none⟩), .int .i64 x] w (GivesInts w (ints (preW N S.up x))) :=
  (walk_PreO x hO rel h).mono fun e w' hh => hh.gives

theorem walk_PostO (x : Int) (hO : Ord N S.up) (rel : NRel n S N) (h : ForestOver w0 w own Fb n S) :
    Calls Try.prog 74 #[.pointer (some ⟨Fb, 0, none⟩), .int .i64 x] w (GivesOwnI w (ints (postW N S.up x))) := by
  have K := Lib.hid (walk_whichO x false hO rel h)
  unfold postW
  obtain ⟨l, hl⟩ : ∃ l, PW.pick false (evW N S.up x) = l := ⟨_, rfl⟩
  rw [hl] at K ⊢
  clear h hl rel hO
  go_enter Try.func74, Try.ntmps74
  go_wp2_with fail
  refine K.out.mono ?_
  rintro e w1 ⟨v1, rfl, h1, b1⟩
  have H1 := Lib.hid h1
  obtain ⟨A1, c1, rfl, -⟩ := h1.ints
  clear K h1
  go_wp2_with fail
  go_ret
  exact ⟨_, rfl, H1.out, b1⟩
theorem walk_Post (x : Int) (hO : Ord N S.up) (rel : NRel n S N) (h : ForestOver w0 w own Fb n S) :
    Calls Try.prog 74 #[.pointer (some ⟨Fb, 0, none⟩), .int .i64 x] w (GivesInts w (ints (postW N S.up x))) :=
  (walk_PostO x hO rel h).mono fun e w' hh => hh.gives

theorem walk_Size (x : Int) (hO : Ord N S.up) (rel : NRel n S N) (h : ForestOver w0 w own Fb n S) :
    Calls Try.prog 76 #[.pointer (some ⟨Fb, 0, none⟩), .int .i64 x] w fun e w' => e = .returned (.int .i64 ((preW N S.up x).length : Nat)) ∧ Below w.heap.size w w' := by
  have K := Lib.hid (walk_Pre x hO rel h)
  obtain ⟨l, hl⟩ : ∃ l, preW N S.up x = l := ⟨_, rfl⟩
  rw [hl] at K ⊢
  clear h hl rel hO
  go_enter Try.func76, Try.ntmps76
  go_wp2_with fail
  refine K.out.mono ?_
  rintro e w1 ⟨A1, n1, c1, rfl, h1, b1⟩
  have en : (ints l).length = n1 := h1.1.1
  rw [ints_len] at en
  subst en
  clear h1 K
  go_wp2_with fail
  go_ret
  exact ⟨rfl, b1⟩
end Go.Proofs.Ytdhcmnbajkpjiaa
/-
  Layer 38 (walk): the reference's Pre.
-/
namespace Go.Proofs.Ytdhcmnbajkpjiaa
open Go.RowKit
open Go.Maps
set_option linter.unusedVariables false
set_option linter.unusedSimpArgs false
attribute [local go_sem] drewN_alloc drewN_setCell

variable {w0 w w' : World} {P : Nat → Prop} {V : Value} {n : Nat} {g : List Int} {O cl : List Nat} {fr : Nat} {N : List Nat} {up : List Int}
def vlen : Value → Nat
  | .slice _ n _ => n
  | _ => 0
theorem exec_from1 {a : Act} {o : Oper} {x : Nat} {lo : Operand} {A : Option Addr} {n c k : Nat} {w : World} (ho : o.op = .slice 27 (.tmp x) (some lo) none none) (hx : a.eval (.tmp x) = .slice A n c) (hl : a.eval lo = .int .i64 (k : Int)) (hk : k ≤ n) :
    (execOp a.eval o).run Try.prog w = .ok (.value (.slice (fromA A c k) (n - k) (c - k))) w := by
  have hs : (Instr.sliceAt 27 (.slice A n c) (some (.int .i64 (k : Int))) none none).run Try.prog w = .ok (.slice (fromA A c k) (n - k) (c - k)) w := by
    rw [run_sliceAt_slice (h := ints_elem), run_slice_l (ht := ints_elem) (h0 := by omega) (h1 := by omega), ints_size]
    simp only [Result.andThen, sliced, fromA, Int.toNat_natCast]
  unfold execOp
  simp only [ho, hx, hl, Option.map_some, Option.map_none, Sem.run_bind, hs, Result.andThen]
  rfl
def RPreRel (w : World) (N : List Nat) (up : List Int) (all : List Nat) (v l : Value) (wr : World) : Prop :=
  ∃ (out L : List Nat) (A : Option Addr) (c : Nat), l = .slice A L.length c ∧ OwnI w.heap.size wr v (ints out) ∧ VAt (fun b => v.ownBlock ≠ some b) wr A L.length c (cellsI (ints L)) ∧ out ++ L.flatMap (PW.pre (childW N up) (rkW N)) = all ∧ Below w.heap.size w wr
theorem flat_len {f : Nat → List Nat} (h : ∀ x, x ∈ f x) : ∀ l : List Nat, l.length ≤ (l.flatMap f).length
  | [] => Nat.zero_le _
  | a :: l => by
    have h1 := flat_len h l
    have h2 := List.length_pos_of_mem (h a)
    rw [List.flatMap_cons, List.length_append, List.length_cons]; omega
set_option maxRecDepth 100000 in
set_option maxHeartbeats 8000000 in
theorem ref38_PreO (x : Int) (hO : Ord N up) (hN : N.length ≤ 4096) (h : RefF P w V n g O cl fr N up) : Calls Try.prog 73 #[V, .int .i64 x] w (GivesOwnI w (ints (preW N up x))) := by
  have hh := h
  obtain ⟨Ao, co, Ag, cg, Ac, cc, An, cn, Ap, cp, rfl, h1, h2, h3⟩ := h
  obtain ⟨m, hml⟩ : ∃ m, cl.length = m := ⟨_, rfl⟩
  rw [hml] at hh ⊢
  obtain ⟨w0, hw0⟩ : ∃ w0, w.alloc (.cells #[.slice Ao n co, .slice Ag n cg, .slice Ac m cc, .int .i64 (fr : Int), .slice An N.length cn, .slice Ap N.length cp] 58) = w0 := ⟨_, rfl⟩
  have r0 : RowAt w0 w.heap.size 58 [.slice Ao n co, .slice Ag n cg, .slice Ac m cc, .int .i64 (fr : Int), .slice An N.length cn, .slice Ap N.length cp] := by rw [← hw0]; exact RowAt.new w 58 _
  have b0 : Below w.heap.size w w0 := by rw [← hw0]; exact (by repeat (first | exact Below.refl _ _ | assumption | refine bel_drew ?_ | refine bel_drewN ?_ _ | refine bel_alloc ?_ _ | refine bel_set ?_ (by first | (dsimp only; omega) | (simp; done) | (simp; omega)) _ | refine bel_trans ?_ (by assumption)))
  have R0 := Lib.hid r0
  have B0 := Lib.hid b0
  have HW0 := Lib.hid hw0
  have HH := Lib.hid (hh.keep b0)
  clear h1 h2 h3 hml b0 hh hw0 r0
  obtain ⟨all, hr⟩ : ∃ all, preW N up x = all := ⟨_, rfl⟩
  have hl := preW_len hO x
  rw [hr] at hl ⊢
  have hal : all.length ≤ 4096 := by omega
  have HA := Lib.hid hr
  have KA := Lib.hid (ref37_At x HH.out)
  have c0 : w0.cell? ⟨w.heap.size, 0, none⟩ = some (.slice Ao n co) := by rw [R0.out.cell]; rfl
  have c1 : w0.cell? ⟨w.heap.size, 1, none⟩ = some (.slice Ag n cg) := by rw [R0.out.cell]; rfl
  have c2 : w0.cell? ⟨w.heap.size, 2, none⟩ = some (.slice Ac m cc) := by rw [R0.out.cell]; rfl
  have c3 : w0.cell? ⟨w.heap.size, 3, none⟩ = some (.int .i64 (fr : Int)) := by rw [R0.out.cell]; rfl
  have c4 : w0.cell? ⟨w.heap.size, 4, none⟩ = some (.slice An N.length cn) := by rw [R0.out.cell]; rfl
  have c5 : w0.cell? ⟨w.heap.size, 5, none⟩ = some (.slice Ap N.length cp) := by rw [R0.out.cell]; rfl
  clear hr hl
  by_cases hx : 0 ≤ x ∧ x.toNat ∈ N
  · have e1 : PC.place N x = (N.idxOf x.toNat : Nat) := by unfold PC.place; rw [if_pos hx]
    obtain ⟨q, hq⟩ : ∃ q, N.idxOf x.toNat = q := ⟨_, rfl⟩
    rw [e1, hq] at KA
    have g0 : (0 : Int) ≤ (q : Int) := by omega
    have g1 : ¬ (q : Int) < 0 := by omega
    obtain ⟨p, hp⟩ : ∃ p : Nat, x = (p : Int) := ⟨x.toNat, by omega⟩
    subst hp
    have HE : Hid ([] ++ [p].flatMap (PW.pre (childW N up) (rkW N)) = all) := Lib.hid (by rw [← HA.out, preW_yes hx]; simp)
    clear e1 hq hx HA
    go_enter Try.func73, Try.ntmps73
    go_upto_region 1 with (fail)
    rw [HW0.out]
    go_wp2_with fail
    refine KA.out.mono ?_
    rintro e w1 ⟨rfl, b1⟩
    have R1 := Lib.hid (R0.out.keep b1)
    have HH1 := Lib.hid (HH.out.keep b1)
    have B1 := Lib.hid (bel_trans B0.out b1)
    clear KA b1 c0 c1 c2 c3 c4 c5 HH R0
    go_upto_region 5 with (fail)
    refine region_name ?_
    rintro w2 hw2
    have b2 : Below w1.heap.size w1 w2 := by rw [hw2]; exact (by repeat (first | exact Below.refl _ _ | assumption | refine bel_drew ?_ | refine bel_drewN ?_ _ | refine bel_alloc ?_ _ | refine bel_set ?_ (by first | (dsimp only; omega) | (simp; done) | (simp; omega)) _ | refine bel_trans ?_ (by assumption)))
    have R2 := Lib.hid (R1.out.keep b2)
    have HH2 := Lib.hid (HH1.out.keep b2)
    have B2 := Lib.hid (bel_trans B1.out b2)
    have HREL : Hid (RPreRel w2 N up all (.slice none 0 0) (.slice (some ⟨w1.heap.size, 0, none⟩) 1 1) w2) := Lib.hid ⟨[], [p], _, 1, rfl, OwnI.nil _ _, ⟨rfl, Nat.le_refl _, by omega, fun _ => ⟨w1.heap.size, 0, rfl, (by intro e; cases e), by rw [hw2]; simp, fun i u hu => by
      have hi : i = 0 := by
        rcases Nat.lt_or_ge i 1 with h1 | h1
        · omega
        · rw [List.getElem?_eq_none (by simpa [cellsI, ints] using h1)] at hu; cases hu
      subst hi
      rw [hw2]
      simp [cellsI, ints] at hu
      rw [← hu]
      simp [go_sem]⟩⟩, HE.out, Below.refl _ _⟩
    clear hw2 b2 R1 HH1 B1
    go_wp2_with fail
    go_loopw [5, 6, 7] (fun v l z wr => RPreRel w2 N up all v l wr) (fun v _ _ _ => all.length - vlen v)
    case atStart => exact HREL.out
    case round =>
      clear HREL HE
      obtain ⟨out, L, A, c, rfl, ho, hv, he, hb⟩ := hrel
      have HB := Lib.hid hb
      obtain ⟨Av, cv, hv9⟩ := own_shape ho
      subst hv9
      have HO1 := Lib.hid ho
      have HV := Lib.hid hv
      have HE := Lib.hid he
      have hol : (ints out).length ≤ 4096 := by
        have := congrArg List.length he
        rw [List.length_append] at this
        rw [ints_len]; omega
      have hLl : L.length ≤ 4096 := by
        have := congrArg List.length he
        rw [List.length_append] at this
        have h2 := flat_len (f := PW.pre (childW N up) (rkW N)) (fun x => PW.self_pre hO.is x) L
        omega
      clear ho hv he hb
      cases L with
      | nil =>
        have HE2 : Hid (out = all) := Lib.hid (by rw [← HE.out]; simp)
        rw [List.length_nil] at *
        go_wp2_with fail
        go_ret
        exact ⟨_, rfl, by rw [← HE2.out]; exact HO1.out.mono B2.out.size, bel_trans B2.out HB.out⟩
      | cons q L =>
        obtain ⟨k, hk⟩ : ∃ k, L.length = k := ⟨_, rfl⟩
        rw [List.length_cons, hk] at HV hLl ⊢
        have HK := Lib.hid hk
        obtain ⟨b, off, rfl, hbv, hbl, hcell⟩ := HV.out.2.2.2 (by omega)
        have x0 := hcell 0 (.int .i64 (q : Int)) rfl
        rw [Nat.add_zero] at x0
        have HC2 := Lib.hid HV.out.2
        have HBV := Lib.hid hbv
        have g2 : (0 : Int) < ((k + 1 : Nat) : Int) := by omega
        have g3 : ((k + 1 : Nat) : Int) = (k : Int) + 1 := by omega
        have g4 : (0 : Int) < (k : Int) + 1 := by omega
        have HE2 : Hid ((out ++ [q]) ++ (childW N up q ++ L).flatMap (PW.pre (childW N up) (rkW N)) = all) := Lib.hid (by rw [← HE.out, PW.pre_step hO.is.hk]; simp)
        have HT2 : Hid (ints out ++ [(q : Int)] = ints (out ++ [q])) := Lib.hid (by rw [ints_app]; rfl)
        obtain ⟨ol, hol2⟩ : ∃ ol, (ints out).length = ol := ⟨_, rfl⟩
        rw [hol2] at HO1 HV HBV hol ⊢
        have HOL := Lib.hid hol2
        clear hcell hbv hk hol2
        go_upto_region 8 with (at_builtin; refine app_listY rfl (.tmp 21) (.tmp 23) rfl w2.heap.size _ (ints out) rfl (HO1.out.keep (bel_alloc (Below.refl _ _) _)) (some ⟨wr.heap.size, 0, none⟩) 1 1 [(q : Int)] rfl (src_oneI (by simp [go_sem])) (by rw [HOL.out]; omega) (by have := HB.out.size; simp; omega) ?_; intro V9 W8 ho9 hg9 hb9; rw [HT2.out] at ho9; have HO9 := Lib.hid ho9; have HG9 := Lib.hid hg9; have HS9 := Lib.hid hb9; clear ho9 hg9 hb9)
        have B8 : Hid (Below w2.heap.size w2 W8) := Lib.hid ((HB.out.alloc HB.out.size _).grown HG9.out (by have := HB.out.size; simp; omega) (fun k e => (HO1.out.ltB k e).1))
        have HV8 : Hid (VAt (fun b => V9.ownBlock ≠ some b) W8 (some ⟨b, off, none⟩) (k + 1) c (cellsI (ints (q :: L)))) := Lib.hid (by
          have v1 := HV.out.mono (P' := fun b => (Value.slice Av ol cv).ownBlock ≠ some b ∧ V9.ownBlock ≠ some b) (fun b hb hP => ⟨hP, fun e => by
            rcases HS9.out with h1 | h1
            · exact hP (h1 ▸ e)
            · rw [h1] at e; have e2 := Option.some.inj e; simp at e2; omega⟩)
          have v2 := v1.keep (bel_alloc (Below.refl _ _) (.cells #[.int .i64 (q : Int)] 3))
          exact (v2.blocks HG9.out.size (fun b hb hP => HG9.out.block b hb (fun e => hP.1 e.symm))).mono (fun b _ hP => hP.2))
        obtain ⟨A9, c9, h9⟩ := own_shape HO9.out
        have HV9 : Hid (vlen V9 = ol + 1) := Lib.hid (by rw [h9]; show (ints (out ++ [q])).length = _; rw [← HT2.out, List.length_append, HOL.out]; rfl)
        have HLT : ol < all.length := by have := congrArg List.length HE2.out; rw [List.length_append, List.length_append, List.length_singleton] at this; have e := HOL.out; rw [ints_len] at e; omega
        have KC : Hid (∀ W, Below W8.heap.size W8 W → Calls Try.prog 47 #[.agg #[.slice Ao n co, .slice Ag n cg, .slice Ac m cc, .int .i64 (fr : Int), .slice An N.length cn, .slice Ap N.length cp], .int .i64 (q : Int)] W (GivesInts W (ints (childW N up q)))) := Lib.hid (fun W hW => ref37_Children (q : Int) (by omega) (HH2.out.keep (bel_trans B8.out hW)))
        have hkl : (childW N up q).length ≤ 4096 := Nat.le_trans (List.length_filter_le _ _) hN
        obtain ⟨A6, hA6⟩ : ∃ A6, fromA (some ⟨b, off, none⟩) c 1 = A6 := ⟨_, rfl⟩
        obtain ⟨c6, hc6⟩ : ∃ c6, c - 1 = c6 := ⟨_, rfl⟩
        have HSRC : Hid (∀ W, Below W8.heap.size W8 W → SrcS 1 W A6 k (cellsI (ints L))) := Lib.hid (fun W hW => by
          have := (HV8.out.keep hW).src_from (k := 1) (by omega)
          rw [hA6, cellsI_drop] at this
          exact this)
        have HSL : Hid (∀ (a : Act) (o : Oper) (W : World), o.op = .slice 27 (.tmp 30) (some (.const (.int .i64 1))) none none → a.eval (.tmp 30) = .slice (some ⟨b, off, none⟩) (k + 1) c → a.eval (.const (.int .i64 1)) = .int .i64 ((1 : Nat) : Int) → (execOp a.eval o).run Try.prog W = .ok (.value (.slice A6 k c6)) W) := Lib.hid (fun a o W h1 h2 h3 => by
          rw [← hA6, ← hc6]
          exact exec_from1 h1 h2 h3 (by omega))
        have HFIN : Hid (∀ v32 w32, Below W8.heap.size W8 w32 → OwnI W8.heap.size w32 v32 (ints (childW N up q) ++ ints L) → RPreRel w2 N up all V9 v32 w32) := Lib.hid (fun v32 w32 hb hown => by
          rw [← ints_app] at hown
          obtain ⟨A1, c1, e1, -, hc1, hc2⟩ := hown.ints
          rw [ints_len] at e1
          subst e1
          refine ⟨out ++ [q], childW N up q ++ L, A1, c1, rfl, HO9.out.keep hb, own_vat (base := W8.heap.size) (t := 3) (by have := hown; unfold OwnI at this; rw [ints_len] at this; exact this) (fun b hb2 e => ?_), HE2.out, bel_trans' B8.out hb B8.out.size⟩
          have := (HO9.out.ltB b e).2
          omega)
        clear hA6 hc6 h9 HS9 HG9 HO1 HV HV8
        have R8 := R2.out.keep B8.out
        have lt8 : w.heap.size < W8.heap.size := R8.lt
        have hS : Hid (∀ W : World, Below W8.heap.size W8 W → (fun W : World => W.cell? ⟨w.heap.size, 0, none⟩ = some (.slice Ao n co) ∧ W.cell? ⟨w.heap.size, 1, none⟩ = some (.slice Ag n cg) ∧ W.cell? ⟨w.heap.size, 2, none⟩ = some (.slice Ac m cc) ∧ W.cell? ⟨w.heap.size, 3, none⟩ = some (.int .i64 (fr : Int)) ∧ W.cell? ⟨w.heap.size, 4, none⟩ = some (.slice An N.length cn) ∧ W.cell? ⟨w.heap.size, 5, none⟩ = some (.slice Ap N.length cp)) W) := Lib.hid (fun W hW => ⟨(hW.cell (p := ⟨w.heap.size, 0, none⟩) lt8).trans ((R8.cell 0).trans rfl), (hW.cell (p := ⟨w.heap.size, 1, none⟩) lt8).trans ((R8.cell 1).trans rfl), (hW.cell (p := ⟨w.heap.size, 2, none⟩) lt8).trans ((R8.cell 2).trans rfl), (hW.cell (p := ⟨w.heap.size, 3, none⟩) lt8).trans ((R8.cell 3).trans rfl), (hW.cell (p := ⟨w.heap.size, 4, none⟩) lt8).trans ((R8.cell 4).trans rfl), (hW.cell (p := ⟨w.heap.size, 5, none⟩) lt8).trans ((R8.cell 5).trans rfl)⟩)
        clear R8 lt8 x0
        refine wp_region_held_drew (S := (fun W : World => W.cell? ⟨w.heap.size, 0, none⟩ = some (.slice Ao n co) ∧ W.cell? ⟨w.heap.size, 1, none⟩ = some (.slice Ag n cg) ∧ W.cell? ⟨w.heap.size, 2, none⟩ = some (.slice Ac m cc) ∧ W.cell? ⟨w.heap.size, 3, none⟩ = some (.int .i64 (fr : Int)) ∧ W.cell? ⟨w.heap.size, 4, none⟩ = some (.slice An N.length cn) ∧ W.cell? ⟨w.heap.size, 5, none⟩ = some (.slice Ap N.length cp))) (by kernel_rfl) ?_ (fun hHeld => ?_)
        focus ((try dsimp only); exact hS.out _ (by repeat (first | exact Below.refl _ _ | assumption | refine bel_drew ?_ | refine bel_drewN ?_ _ | refine bel_alloc ?_ _ | refine bel_trans ?_ (by assumption))))
        refine tk_yes 1 (v := ?_) rfl (by kernel_rfl) (by kernel_rfl) (by kernel_rfl) (fun _ _ _ h => h) (by kernel_rfl) (by assumption) ?_ ?_; rotate_left; (focus (intro w hSw; (try dsimp only at hSw); go_simp; (first | done | (with_reducible rfl)))); (try simp only [Act.put, List.setIfInBounds_toArray, List.set_cons_zero, List.set_cons_succ])
        refine tk_yes 2 (v := ?_) rfl (by kernel_rfl) (by kernel_rfl) (by kernel_rfl) (fun _ _ _ h => h) (by kernel_rfl) (by assumption) ?_ ?_; rotate_left; (focus (intro w hSw; (try dsimp only at hSw); go_simp; (first | done | (with_reducible rfl)))); (try simp only [Act.put, List.setIfInBounds_toArray, List.set_cons_zero, List.set_cons_succ])
        refine tk_yes 5 (v := ?_) rfl (by kernel_rfl) (by kernel_rfl) (by kernel_rfl) (fun _ _ _ h => h) (by kernel_rfl) (by assumption) ?_ ?_; rotate_left; (focus (intro w hSw; (try dsimp only at hSw); go_simp; (first | done | (with_reducible rfl)))); (try simp only [Act.put, List.setIfInBounds_toArray, List.set_cons_zero, List.set_cons_succ])
        refine tk_it 6 (.slice A6 k c6) rfl (by kernel_rfl) (by kernel_rfl) (by kernel_rfl) (fun _ _ _ h => h) (by kernel_rfl) (by assumption) (fun w => HSL.out _ _ w rfl rfl rfl) ?_; (try simp only [Act.put, List.setIfInBounds_toArray, List.set_cons_zero, List.set_cons_succ])
        refine tk_two 0 3 rfl rfl (by kernel_rfl) (by kernel_rfl) (by kernel_rfl) (fun KW hKW => ?_) (fun KW hKW => ?_)
        · go_simp; refine hKW.out _ _ ?_ (fun hHeld => ?_); (focus ((try dsimp only); first | exact q | exact hS.out _ (by repeat (first | exact Below.refl _ _ | assumption | refine bel_drew ?_ | refine bel_drewN ?_ _ | refine bel_alloc ?_ _ | refine bel_trans ?_ (by assumption))))); clear hKW KW; (try simp only [Act.put, List.setIfInBounds_toArray, List.set_cons_zero, List.set_cons_succ])
          refine tk_call 3 rfl (by kernel_rfl) (by kernel_rfl) (fun KW hKW => ?_); go_simp; go_at_call 47; refine (KC.out _ (by repeat (first | exact Below.refl _ _ | assumption | refine bel_drew ?_ | refine bel_drewN ?_ _ | refine bel_alloc ?_ _ | refine bel_trans ?_ (by assumption)))).mono ?_; rintro e u3 ⟨A3, n3, c3, rfl, i3, hb3⟩; have I3 := Lib.hid i3.1; clear i3; refine hKW.out _ _ ?_ (fun hHeld => ?_); (focus ((try dsimp only); first | exact q | exact hS.out _ (by repeat (first | exact Below.refl _ _ | assumption | refine bel_drew ?_ | refine bel_drewN ?_ _ | refine bel_alloc ?_ _ | refine bel_trans ?_ (by assumption))))); clear hKW KW; (try simp only [Act.put, List.setIfInBounds_toArray, List.set_cons_zero, List.set_cons_succ])
          have OE : Hid (OwnI W8.heap.size u3 (.slice (some ⟨W8.heap.size, 0, none⟩) 0 0) []) := Lib.hid (by
            have q0 := own_emptyI W8.drew
            exact (q0.keep (bel_to (W0 := W8.drew.alloc (.cells #[] 3)) (by repeat (first | exact Below.refl _ _ | assumption | refine bel_drew ?_ | refine bel_drewN ?_ _ | refine bel_alloc ?_ _ | refine bel_trans ?_ (by assumption))) hb3)).mono (Nat.le_refl _))
          have BW : Below W8.heap.size W8 u3 := (by repeat (first | exact Below.refl _ _ | assumption | refine bel_drew ?_ | refine bel_drewN ?_ _ | refine bel_alloc ?_ _ | refine bel_trans ?_ (by assumption)))
          refine tk_call 4 rfl (by kernel_rfl) (by kernel_rfl) (fun KW hKW => ?_); refine app_operI2 (.tmp 25) (.tmp 28) rfl W8.heap.size _ [] rfl OE.out A3 n3 c3 _ rfl (I3.out.srcI) (by rw [← I3.out.1, ints_len]; simp; omega) BW.size ?_; intro v29 w29 ho29 hb29 hk29 hor29 hs29; have B29 := BW.trans hb29; have q := hS.out _ B29; rw [List.nil_append] at ho29; have HO29 := Lib.hid ho29; clear ho29 hb29 hk29 hor29 hs29; refine hKW.out _ _ ?_ (fun hHeld => ?_); (focus ((try dsimp only); first | exact q | exact hS.out _ (by repeat (first | exact Below.refl _ _ | assumption | refine bel_drew ?_ | refine bel_drewN ?_ _ | refine bel_alloc ?_ _ | refine bel_trans ?_ (by assumption))))); clear hKW KW; (try simp only [Act.put, List.setIfInBounds_toArray, List.set_cons_zero, List.set_cons_succ])
          refine tk_call 7 rfl (by kernel_rfl) (by kernel_rfl) (fun KW hKW => ?_); refine app_operI2 (.tmp 29) (.tmp 31) rfl W8.heap.size v29 _ rfl HO29.out A6 k c6 (ints L) rfl (HSRC.out _ B29) (by rw [ints_len]; omega) B29.size ?_; intro v32 w32 ho32 hb32 hk32 hor32 hs32; have B32 := B29.trans hb32; have q := hS.out _ B32; have HO32 := Lib.hid ho32; clear ho32 hb32 hk32 hor32 hs32; refine hKW.out _ _ ?_ (fun hHeld => ?_); (focus ((try dsimp only); first | exact q | exact hS.out _ (by repeat (first | exact Below.refl _ _ | assumption | refine bel_drew ?_ | refine bel_drewN ?_ _ | refine bel_alloc ?_ _ | refine bel_trans ?_ (by assumption))))); clear hKW KW; (try simp only [Act.put, List.setIfInBounds_toArray, List.set_cons_zero, List.set_cons_succ])
          refine tk_yes 8 (v := ?_) rfl (by kernel_rfl) (by kernel_rfl) (by kernel_rfl) (fun _ _ _ h => h) (by kernel_rfl) (by assumption) ?_ ?_; rotate_left; (focus (intro w hSw; (try dsimp only at hSw); go_simp; (first | done | (with_reducible rfl)))); (try simp only [Act.put, List.setIfInBounds_toArray, List.set_cons_zero, List.set_cons_succ])
          refine wpAnyH_done (by kernel_rfl) ?_ _
          go_wp2_with fail
          go_roundw
          case rel => exact HFIN.out _ _ B32 HO32.out
          case measure => show all.length - vlen V9 < all.length - ol; rw [HV9.out]; omega
        · go_simp; go_at_call 47; refine (KC.out _ (by repeat (first | exact Below.refl _ _ | assumption | refine bel_drew ?_ | refine bel_drewN ?_ _ | refine bel_alloc ?_ _ | refine bel_trans ?_ (by assumption)))).mono ?_; rintro e u3 ⟨A3, n3, c3, rfl, i3, hb3⟩; have I3 := Lib.hid i3.1; clear i3; refine hKW.out _ _ ?_ (fun hHeld => ?_); (focus ((try dsimp only); first | exact q | exact hS.out _ (by repeat (first | exact Below.refl _ _ | assumption | refine bel_drew ?_ | refine bel_drewN ?_ _ | refine bel_alloc ?_ _ | refine bel_trans ?_ (by assumption))))); clear hKW KW; (try simp only [Act.put, List.setIfInBounds_toArray, List.set_cons_zero, List.set_cons_succ])
          refine tk_call 0 rfl (by kernel_rfl) (by kernel_rfl) (fun KW hKW => ?_); go_simp; refine hKW.out _ _ ?_ (fun hHeld => ?_); (focus ((try dsimp only); first | exact q | exact hS.out _ (by repeat (first | exact Below.refl _ _ | assumption | refine bel_drew ?_ | refine bel_drewN ?_ _ | refine bel_alloc ?_ _ | refine bel_trans ?_ (by assumption))))); clear hKW KW; (try simp only [Act.put, List.setIfInBounds_toArray, List.set_cons_zero, List.set_cons_succ])
          have OE : Hid (OwnI W8.heap.size (u3.alloc (.cells #[] 3)) (.slice (some ⟨u3.heap.size, 0, none⟩) 0 0) []) := Lib.hid ((own_emptyI u3).mono (by have := hb3.size; simpa using this))
          have BW : Below W8.heap.size W8 (u3.alloc (.cells #[] 3)) := (by repeat (first | exact Below.refl _ _ | assumption | refine bel_drew ?_ | refine bel_drewN ?_ _ | refine bel_alloc ?_ _ | refine bel_trans ?_ (by assumption)))
          replace I3 := Lib.hid (I3.out.keep (bel_alloc (Below.refl u3.heap.size u3) (.cells #[] 3)))
          refine tk_call 4 rfl (by kernel_rfl) (by kernel_rfl) (fun KW hKW => ?_); refine app_operI2 (.tmp 25) (.tmp 28) rfl W8.heap.size _ [] rfl OE.out A3 n3 c3 _ rfl (I3.out.srcI) (by rw [← I3.out.1, ints_len]; simp; omega) BW.size ?_; intro v29 w29 ho29 hb29 hk29 hor29 hs29; have B29 := BW.trans hb29; have q := hS.out _ B29; rw [List.nil_append] at ho29; have HO29 := Lib.hid ho29; clear ho29 hb29 hk29 hor29 hs29; refine hKW.out _ _ ?_ (fun hHeld => ?_); (focus ((try dsimp only); first | exact q | exact hS.out _ (by repeat (first | exact Below.refl _ _ | assumption | refine bel_drew ?_ | refine bel_drewN ?_ _ | refine bel_alloc ?_ _ | refine bel_trans ?_ (by assumption))))); clear hKW KW; (try simp only [Act.put, List.setIfInBounds_toArray, List.set_cons_zero, List.set_cons_succ])
          refine tk_call 7 rfl (by kernel_rfl) (by kernel_rfl) (fun KW hKW => ?_); refine app_operI2 (.tmp 29) (.tmp 31) rfl W8.heap.size v29 _ rfl HO29.out A6 k c6 (ints L) rfl (HSRC.out _ B29) (by rw [ints_len]; omega) B29.size ?_; intro v32 w32 ho32 hb32 hk32 hor32 hs32; have B32 := B29.trans hb32; have q := hS.out _ B32; have HO32 := Lib.hid ho32; clear ho32 hb32 hk32 hor32 hs32; refine hKW.out _ _ ?_ (fun hHeld => ?_); (focus ((try dsimp only); first | exact q | exact hS.out _ (by repeat (first | exact Below.refl _ _ | assumption | refine bel_drew ?_ | refine bel_drewN ?_ _ | refine bel_alloc ?_ _ | refine bel_trans ?_ (by assumption))))); clear hKW KW; (try simp only [Act.put, List.setIfInBounds_toArray, List.set_cons_zero, List.set_cons_succ])
          refine tk_yes 8 (v := ?_) rfl (by kernel_rfl) (by kernel_rfl) (by kernel_rfl) (fun _ _ _ h => h) (by kernel_rfl) (by assumption) ?_ ?_; rotate_left; (focus (intro w hSw; (try dsimp only at hSw); go_simp; (first | done | (with_reducible rfl)))); (try simp only [Act.put, List.setIfInBounds_toArray, List.set_cons_zero, List.set_cons_succ])
          refine wpAnyH_done (by kernel_rfl) ?_ _
          go_wp2_with fail
          go_roundw
          case rel => exact HFIN.out _ _ B32 HO32.out
          case measure => show all.length - vlen V9 < all.length - ol; rw [HV9.out]; omega
  · have e1 : PC.place N x = -1 := by unfold PC.place; rw [if_neg hx]
    rw [e1] at KA
    have HE : Hid ([] = all) := Lib.hid (by rw [← HA.out, preW_no hx])
    clear e1 hx HA
    go_enter Try.func73, Try.ntmps73
    go_upto_region 1 with (fail)
    rw [HW0.out]
    go_wp2_with fail
    refine KA.out.mono ?_
    rintro e w1 ⟨rfl, b1⟩
    have B1 := Lib.hid (bel_trans B0.out b1)
    clear KA b1 c0 c1 c2 c3 c4 c5
    go_wp2_with fail
    go_ret
    exact ⟨_, rfl, by rw [← HE.out]; exact OwnI.nil _ _, B1.out⟩
theorem ref38_Pre (x : Int) (hO : Ord N up) (hN : N.length ≤ 4096) (h : RefF P w V n g O cl fr N up) : Calls Try.prog 73 #[V, .int .i64 x] w (GivesInts w (ints (preW N up x))) :=
  (ref38_PreO x hO hN h).mono fun e w' hh => hh.gives
end Go.Proofs.Ytdhcmnbajkpjiaa
