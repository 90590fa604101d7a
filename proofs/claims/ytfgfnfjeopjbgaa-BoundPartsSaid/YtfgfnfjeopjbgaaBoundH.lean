/-
  Layer 47 (bound): Drain, Head, Ticket.
-/
import Derived.Test.YtfgfnfjeopjbgaaBoundG
namespace Go.Proofs.Ytfgfnfjeopjbgaa
open Go.RowKit
set_option linter.unusedVariables false
attribute [local go_sem] drewN_alloc drewN_setCell

def toldV (p : Int × Bool) : Value := .tuple #[.int .i64 p.1, .bool p.2]

theorem told_Drain (c : PBd.Case) (w : World) (hq : c.q ≤ 9223372036854775807) (hw : c.wi ≤ 9223372036854775807) :
    Calls Try.prog 70 #[caseV c, .func (.func 71) #[caseV c] #[]] (w.alloc (caseBox c)) fun e w' => e = .returned (toldV (PBd.drainV c)) ∧ Below (w.alloc (caseBox c)).heap.size (w.alloc (caseBox c)) w' := by
  unfold PBd.drainV toldV
  by_cases h : c.right
  · rw [if_pos h]
    exact told_yes_m 71 c c.drain _ h (fun _ => by simp [go_sem]) (fun W _ => (bound_empty c W h hq).mono fun e w' ⟨he, hw'⟩ => ⟨he, by rw [← hw']; exact (by repeat (first | exact Below.refl _ _ | assumption | refine bel_drew ?_ | refine bel_drewN ?_ _ | refine bel_alloc ?_ _ | refine bel_set ?_ (by first | (dsimp only; omega) | (simp; done) | (simp; omega)) _ | refine bel_trans ?_ (by assumption)))⟩)
  · rw [if_neg h]
    exact told_wrong c _ _ h

theorem bound_Drain (c : PBd.Case) (w : World) (hq : c.q ≤ 9223372036854775807) (hw : c.wi ≤ 9223372036854775807) :
    Calls Try.prog 18 #[caseV c] w fun e w' => e = .returned (toldV (PBd.drainV c)) ∧ Below w.heap.size w w' := by
  have K := told_Drain c w hq hw
  generalize PBd.drainV c = p at *
  unfold toldV caseBox at K
  unfold toldV
  unfold caseV at K ⊢
  obtain ⟨ch, q, cl, wi, ah⟩ := c
  obtain ⟨p1, p2⟩ := p
  dsimp only at *
  replace K := Lib.hid K
  clear hq hw
  have hmf : ∀ (fn : Fn) (first cap : Array Value) (w : World), (Instr.makeFunc fn first cap).run Try.prog w = .ok (.func fn first cap) w := fun _ _ _ _ => rfl
  go_enter Try.func18, Try.ntmps18
  go_wp2_with fail
  refine K.out.mono ?_
  rintro e w1 ⟨rfl, hb⟩
  go_wp2_with fail
  go_ret2
  exact ⟨rfl, (by repeat (first | exact Below.refl _ _ | assumption | refine bel_drew ?_ | refine bel_drewN ?_ _ | refine bel_alloc ?_ _ | refine bel_set ?_ (by first | (dsimp only; omega) | (simp; done) | (simp; omega)) _ | refine bel_trans ?_ (by assumption)))⟩

theorem told_Head (c : PBd.Case) (w : World) (hq : c.q ≤ 9223372036854775807) (hw : c.wi ≤ 9223372036854775807) :
    Calls Try.prog 70 #[caseV c, .func (.func 72) #[caseV c] #[]] (w.alloc (caseBox c)) fun e w' => e = .returned (toldV (PBd.headV c)) ∧ Below (w.alloc (caseBox c)).heap.size (w.alloc (caseBox c)) w' := by
  unfold PBd.headV toldV
  by_cases h : c.right
  · by_cases hh : c.head ≤ PBd.big
    · rw [if_pos ⟨h, hh⟩]
      exact told_yes_m 72 c c.head _ h (fun _ => by simp [go_sem]) (fun W _ => bound_first c W h hq hw hh)
    · rw [if_neg (fun x => hh x.2)]
      exact told_over_m 72 c _ h (fun _ => by simp [go_sem]) (fun W _ => bound_first_no c W h hq hw (by omega))
  · rw [if_neg (fun x => h x.1)]
    exact told_wrong c _ _ h

theorem bound_Head (c : PBd.Case) (w : World) (hq : c.q ≤ 9223372036854775807) (hw : c.wi ≤ 9223372036854775807) :
    Calls Try.prog 19 #[caseV c] w fun e w' => e = .returned (toldV (PBd.headV c)) ∧ Below w.heap.size w w' := by
  have K := told_Head c w hq hw
  generalize PBd.headV c = p at *
  unfold toldV caseBox at K
  unfold toldV
  unfold caseV at K ⊢
  obtain ⟨ch, q, cl, wi, ah⟩ := c
  obtain ⟨p1, p2⟩ := p
  dsimp only at *
  replace K := Lib.hid K
  clear hq hw
  have hmf : ∀ (fn : Fn) (first cap : Array Value) (w : World), (Instr.makeFunc fn first cap).run Try.prog w = .ok (.func fn first cap) w := fun _ _ _ _ => rfl
  go_enter Try.func19, Try.ntmps19
  go_wp2_with fail
  refine K.out.mono ?_
  rintro e w1 ⟨rfl, hb⟩
  go_wp2_with fail
  go_ret2
  exact ⟨rfl, (by repeat (first | exact Below.refl _ _ | assumption | refine bel_drew ?_ | refine bel_drewN ?_ _ | refine bel_alloc ?_ _ | refine bel_set ?_ (by first | (dsimp only; omega) | (simp; done) | (simp; omega)) _ | refine bel_trans ?_ (by assumption)))⟩

theorem told_Ticket (c : PBd.Case) (w : World) (hq : c.q ≤ 9223372036854775807) (hw : c.wi ≤ 9223372036854775807) :
    Calls Try.prog 70 #[caseV c, .func (.func 73) #[] #[.pointer (some ⟨w.heap.size, 0, none⟩)]] (w.alloc (caseBox c)) fun e w' => e = .returned (toldV (PBd.ticketV c)) ∧ Below (w.alloc (caseBox c)).heap.size (w.alloc (caseBox c)) w' := by
  unfold PBd.ticketV toldV
  have hc : CaseAt (w.alloc (caseBox c)) w.heap.size c := ⟨by simp, by simp [caseBox], by simp [caseBox], by simp [caseBox], by simp [caseBox], by simp [caseBox]⟩
  by_cases h : c.right
  · by_cases hh : c.ticket ≤ PBd.big
    · rw [if_pos ⟨h, hh⟩]
      exact told_yes_p 73 c c.ticket _ _ h (fun _ => by simp [go_sem]) (fun W hW => ticket1_yes c _ W h hq hw hh (hc.keep hW))
    · rw [if_neg (fun x => hh x.2)]
      refine told_over_p 73 c _ _ h (fun _ => by simp [go_sem]) (fun W hW => ?_)
      by_cases hd : c.head ≤ PBd.big
      · exact ticket1_t c _ W h hq hw hd (by omega) (hc.keep hW)
      · exact ticket1_h c _ W h hq hw (by omega) (hc.keep hW)
  · rw [if_neg (fun x => h x.1)]
    exact told_wrong c _ _ h

theorem bound_Ticket (c : PBd.Case) (w : World) (hq : c.q ≤ 9223372036854775807) (hw : c.wi ≤ 9223372036854775807) :
    Calls Try.prog 20 #[caseV c] w fun e w' => e = .returned (toldV (PBd.ticketV c)) ∧ Below w.heap.size w w' := by
  have K := told_Ticket c w hq hw
  generalize PBd.ticketV c = p at *
  unfold toldV caseBox at K
  unfold toldV
  unfold caseV at K ⊢
  obtain ⟨ch, q, cl, wi, ah⟩ := c
  obtain ⟨p1, p2⟩ := p
  dsimp only at *
  replace K := Lib.hid K
  clear hq hw
  have hmf : ∀ (fn : Fn) (first cap : Array Value) (w : World), (Instr.makeFunc fn first cap).run Try.prog w = .ok (.func fn first cap) w := fun _ _ _ _ => rfl
  go_enter Try.func20, Try.ntmps20
  go_wp2_with fail
  refine K.out.mono ?_
  rintro e w1 ⟨rfl, hb⟩
  go_wp2_with fail
  go_ret2
  exact ⟨rfl, (by repeat (first | exact Below.refl _ _ | assumption | refine bel_drew ?_ | refine bel_drewN ?_ _ | refine bel_alloc ?_ _ | refine bel_set ?_ (by first | (dsimp only; omega) | (simp; done) | (simp; omega)) _ | refine bel_trans ?_ (by assumption)))⟩
end Go.Proofs.Ytfgfnfjeopjbgaa
