/-
  Slots: the walks of Right, Gen, Len, Close, New.
-/
import Derived.Test.YtdhcmnbajkpjiaaNodeB
namespace Go.Proofs.Ytdhcmnbajkpjiaa
open Go.RowKit
open Go.Maps
set_option linter.unusedVariables false
set_option linter.unusedSimpArgs false
attribute [local go_sem] drewN_alloc drewN_setCell
variable {B : Nat} {w : World} {Sb Gb Mb n : Nat} {v : Value} {g : List Int} {O cl : List Nat} {fr : Nat}

def rightB (O : List Nat) (g : List Int) (x y : Int) : Bool := decide (x ∈ ints O) && decide (g.getD x.toNat 0 = y)
set_option maxHeartbeats 2000000 in
theorem slots_Right (x y : Int) (h : SlotsAt B w Sb Gb Mb n v g O cl fr) (hi : SlInv n O cl fr) (hx : BdI x) :
    Calls Try.prog 123 #[.pointer (some ⟨Sb, 0, none⟩), .int .i64 x, .int .i64 y] w fun e w' => e = .returned (.bool (rightB O g x y)) ∧ Below w.heap.size w w' := by
  have c0 := h.c0
  have c1 := h.c1
  have hrun := h.set.look x hx
  by_cases hm : x ∈ ints O
  · obtain ⟨p, hp, rfl⟩ : ∃ p : Nat, p ∈ O ∧ x = p := by
      unfold ints at hm
      obtain ⟨p, hp, e⟩ := List.mem_map.1 hm
      exact ⟨p, hp, e.symm⟩
    have hpn : p < n := by have := hi.o2 p hp; have := hi.f1; omega
    have dg := h.gen hpn
    rw [decide_eq_true hm] at hrun
    have HE : Hid (decide (g.getD p 0 = y) = rightB O g (p : Int) y) := Lib.hid (by unfold rightB; rw [decide_eq_true hm]; simp)
    generalize g.getD p 0 = gp at *
    have j0 : (0 : Int) ≤ (p : Int) := by omega
    have j1 : (p : Int) < (n : Int) := by omega
    clear h hm hp
    go_enter Try.func123, Try.ntmps123
    go_wp2_with fail
    exact bodyPost_ret (v := .bool (gp == y)) (by simp [results, Try.results123, go_sem]) rfl ⟨ret_bool (by rw [← HE.out]; rfl), Below.refl _ _⟩
  · rw [decide_eq_false hm] at hrun
    have HE : Hid (false = rightB O g x y) := Lib.hid (by unfold rightB; rw [decide_eq_false hm]; simp)
    clear h hm
    go_enter Try.func123, Try.ntmps123
    go_wp2_with fail
    go_ret
    exact ⟨ret_bool HE.out, Below.refl _ _⟩
theorem slots_Gen_in (p : Nat) (h : SlotsAt B w Sb Gb Mb n v g O cl fr) (hp : p < n) :
    Calls Try.prog 113 #[.pointer (some ⟨Sb, 0, none⟩), .int .i64 (p : Int)] w fun e w' => e = .returned (.int .i64 (g.getD p 0)) ∧ w = w' := by
  have c0 := h.c0
  have dg := h.gen hp
  generalize g.getD p 0 = gp at *
  have j0 : (0 : Int) ≤ (p : Int) := by omega
  have j1 : (p : Int) < (n : Int) := by omega
  have j2 : ¬ (p : Int) < 0 := by omega
  have j3 : ¬ (n : Int) ≤ (p : Int) := by omega
  have j4 : ¬ n ≤ p := by omega
  clear h
  go_enter Try.func113, Try.ntmps113
  go_wp2_with fail
  go_ret
  exact ⟨rfl, rfl⟩
theorem slots_Len (h : SlotsAt B w Sb Gb Mb n v g O cl fr) :
    Calls Try.prog 122 #[.pointer (some ⟨Sb, 0, none⟩)] w fun e w' => e = .returned (.int .i64 (O.length : Int)) ∧ w = w' := by
  have c1 := h.c1
  have hrun := fun ty => h.set.len ty
  clear h
  go_enter Try.func122, Try.ntmps122
  go_wp2_with fail
  go_ret
  exact ⟨rfl, rfl⟩
/-- append in a list of operations, with all that stays. -/
theorem app_listG {ops : Array Oper} {rest : List Oper} {o : Oper} {a : Act} {Q : Exit → Act → World → Prop} {w : World} (hgd : o.guard = none) (s x : Operand)
    (ho : o.op = .call { callee := .builtin .append, args := #[s, x], argTypes := #[27, 27] })
    (B : Nat) (v : Value) (l : List Int) (hsv : a.eval s = v) (hown : OwnI B w v l)
    (A : Option Addr) (m c : Nat) (l2 : List Int) (hx : a.eval x = .slice A m c) (hs : SrcS 1 w A m (cellsI l2)) (hlen : l.length + m ≤ 1048576) (hbase : B ≤ w.heap.size)
    (h : ∀ v' w', OwnI B w' v' (l ++ l2) → w.grownBy w' v.ownBlock → (v'.ownBlock = v.ownBlock ∨ v'.ownBlock = some w.heap.size) → wpList Try.prog ops Q rest (a.put o.dst v') w') : wpList Try.prog ops Q (o :: rest) a w := by
  obtain ⟨i, hi, hz, hsz, hby⟩ := infoInt
  refine wpList_append_S w hgd 1 (by decide) s x 27 ho B 3 i _ 8 Try.underlying27 hi hz hsz hby rfl v l.length _ hsv hown A m c _ hx hs (cellsI_one' l2) (by unfold maxLen; omega) (by omega) hbase (fun v' w' h2 h3 h4 => ?_)
  refine h v' w' ?_ h3 h4
  have hm : m = l2.length := by have := hs.1; simp only [cellsI, List.length_map] at this; omega
  unfold OwnI
  rw [cellsI_append, List.length_append, ← hm]
  exact h2
end Go.Proofs.Ytdhcmnbajkpjiaa
