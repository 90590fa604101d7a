/-
  Layer 39 (page): the walk of PageLays.
-/
import Derived.Test.YtfgfnfjeopjbgaaPageK
import Derived.Test.YtfgfnfjeopjbgaaReg
namespace Go.Proofs.Ytfgfnfjeopjbgaa
open Go.RowKit
set_option linter.unusedVariables false
set_option linter.unusedSimpArgs false
attribute [local go_sem] drewN_alloc drewN_setCell

/-- append at one operation; what else the call owns stays. -/
theorem app_operI2 {o : Oper} {a : Act} {K : Act → World → Prop} {Q : Exit → Act → World → Prop} {w : World} (s x : Operand)
    (ho : o.op = .call { callee := .builtin .append, args := #[s, x], argTypes := #[51, 51] })
    (B : Nat) (v : Value) (l : List Int) (hsv : a.eval s = v) (hown : OwnI B w v l)
    (A : Option Addr) (m c : Nat) (l2 : List Int) (hx : a.eval x = .slice A m c) (hs : SrcS 1 w A m (cellsI l2)) (hlen : l.length + m ≤ 1048576) (hbase : B ≤ w.heap.size)
    (h : ∀ v' w', OwnI B w' v' (l ++ l2) → Below B w w' → (∀ B' v2 l', OwnI B' w v2 l' → (∀ k, v2.ownBlock = some k → v.ownBlock ≠ some k) → OwnI B' w' v2 l') → (v'.ownBlock = v.ownBlock ∨ v'.ownBlock = some w.heap.size) → w.heap.size ≤ w'.heap.size → K (a.put o.dst v') w') : o.wp Try.prog a w K Q := by
  obtain ⟨i, hi, hz, hsz, hby⟩ := infoInt
  refine wp_append_S w 1 (by decide) s x 51 ho B 3 i _ 8 Try.underlying51 hi hz hsz hby rfl v l.length _ hsv hown A m c _ hx hs (cellsI_one' l2) (by unfold maxLen; omega) (by omega) hbase (fun v' w' h2 h3 h4 => ?_)
  refine h v' w' ?_ ((Below.refl B w).grown h3 hbase (fun g hg => (hown.lt g hg).1)) (fun B' v2 l' h5 hne => ?_) h4 h3.size
  · have hm : m = l2.length := by have := hs.1; simp only [cellsI, List.length_map] at this; omega
    unfold OwnI
    rw [cellsI_append, List.length_append, ← hm]
    exact h2
  · refine ⟨h5.1, ?_⟩
    rcases h5.2 with ⟨rfl, e⟩ | ⟨g, cap, cur, rfl, hb, hg, r⟩
    · exact .inl ⟨rfl, e⟩
    · refine .inr ⟨g, cap, cur, rfl, hb, ?_, r⟩
      have hlt : g < w.heap.size := by
        rcases Nat.lt_or_ge g w.heap.size with hl | hge
        · exact hl
        · rw [Array.getElem?_eq_none hge] at hg; cases hg
      exact (h3.block g hlt (fun e => hne g rfl e.symm)).trans hg
theorem OwnI.ltB {B : Nat} {w : World} {v : Value} {l : List Int} (h : OwnI B w v l) (k : Nat) (e : v.ownBlock = some k) : B ≤ k ∧ k < w.heap.size := World.ownsRow.lt h k e
end Go.Proofs.Ytfgfnfjeopjbgaa
