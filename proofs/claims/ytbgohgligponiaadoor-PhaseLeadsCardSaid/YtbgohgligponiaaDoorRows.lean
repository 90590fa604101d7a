/-
  NARROWER THAN 'FOR EVERY INPUT', by the rows' own cells (each row's printed sentence says how): PhaseLeads: laid · PhaseRound: laid.
  DERIVED. THE GIVEN ROWS OF THIS SEAT. 2 by the template 'for every input the law returns true; each argument reads behind the call as it read before'; 0 by the template 'total and deterministic' (their statements: YtbgohgligponiaaDoorTotals.lean).
  GIVEN WITH THE SEED: the statements are not yours to turn. If you find one false, say at which input.
  Laid BY PROGRAM, IN A SANDBOX (cutbox-rows.mjs): the forced cells as the released guide's own fill.sh prints them over the translation dd81e120840b8e0a… (all of the seat's roots in one cut). By AI agents, Wed Nov 11 2026. No macro, syntax, notation, axiom, sorry.
-/
import Derived.Test.YtbgohgligponiaaDoorChecked
import GoSem.Claim
import GoSem.ClaimJoined
import GoSem.ClaimMapViews
import Derived.JoinedTies
import Derived.KernelRfl
namespace Go.Proofs.YtbgohgligponiaaDoor
/- THE CELL 'sum', in the pinned program and in every row, IS THE sha256 OF THE DUMP (.gsa) THAT YtbgohgligponiaaDoorProg.lean LOADS. Nothing in Lean hashes anything: it is a label: what it is worth is what the hold of that sum in a sandbox is worth. -/
noncomputable def Tryd.pinned : Pinned := { name := "ytbgohgligponiaadoor", sum := "dd81e120840b8e0a41906bc5e7a6caa717be3b3903ba8b8573d41bbee92838f9", checked := Tryd.checked }
namespace Rows
def none {H : Type} : Left H := { results := [], args := [] }

/- WHAT THE LISTED PACKAGE-LEVEL VARIABLES READ AS WHEN THE CALL BEGINS. Each datum BY PROGRAM (the guide's laid-datum.mjs) off the statement by which the dump's own 'gosem.cut.vars' lays the variable. In a bare row this is a premise. The card (YtbgohgligponiaaDoorCards.lean) ties it to the program's text. -/
def laid_copyhold_phase_names {H : Type} : DataW H := .agg [.lit (.string [102, 114, 101, 101]), .lit (.string [111, 119, 110, 101, 100]), .lit (.string [100, 101, 102, 101, 114, 114, 101, 100]), .lit (.string [119, 105, 112, 105, 110, 103])]

/-- 'copyholdlaw15.PhaseLeads': WHATEVER THE INPUT: true; the input reads as it did. -/
def phaseLeadsSpec : ChangeSpec := { name := "phaseLeads", fn := fun _ => fun
  | [d1, d2, d3] => { results := [.lit (.bool true)], args := [d1, d2, d3] }
  | _ => none }
def phaseLeadsRow : OpenClaim := { program := "ytbgohgligponiaadoor", sum := "dd81e120840b8e0a41906bc5e7a6caa717be3b3903ba8b8573d41bbee92838f9", func := "copyhold/copyholdlaw15.PhaseLeads", spec := "phaseLeads", named := ["copyhold/phase.names"], apart := false, laid := [("copyhold/phase.names", laid_copyhold_phase_names)] }
def PhaseLeadsSaid : Prop := phaseLeadsRow.holds Tryd.pinned (OpenSpec.ofChange phaseLeadsSpec)

/-- ITS FALSE NEIGHBOUR: 'it returns false'. Refute it at one input. -/
def phaseLeadsWrong : ChangeSpec := { name := "phaseLeads", fn := fun _ => fun
  | [d1, d2, d3] => { results := [.lit (.bool false)], args := [d1, d2, d3] }
  | _ => none }
def PhaseLeadsWrongFalsely : Prop := phaseLeadsRow.holds Tryd.pinned (OpenSpec.ofChange phaseLeadsWrong)

/-- 'copyholdlaw15.PhaseRound': WHATEVER THE INPUT: true; the input reads as it did. -/
def phaseRoundSpec : ChangeSpec := { name := "phaseRound", fn := fun _ => fun
  | [d] => { results := [.lit (.bool true)], args := [d] }
  | _ => none }
def phaseRoundRow : OpenClaim := { program := "ytbgohgligponiaadoor", sum := "dd81e120840b8e0a41906bc5e7a6caa717be3b3903ba8b8573d41bbee92838f9", func := "copyhold/copyholdlaw15.PhaseRound", spec := "phaseRound", named := ["copyhold/phase.names"], apart := false, laid := [("copyhold/phase.names", laid_copyhold_phase_names)] }
def PhaseRoundSaid : Prop := phaseRoundRow.holds Tryd.pinned (OpenSpec.ofChange phaseRoundSpec)

/-- ITS FALSE NEIGHBOUR: 'it returns false'. Refute it at one input. -/
def phaseRoundWrong : ChangeSpec := { name := "phaseRound", fn := fun _ => fun
  | [d] => { results := [.lit (.bool false)], args := [d] }
  | _ => none }
def PhaseRoundWrongFalsely : Prop := phaseRoundRow.holds Tryd.pinned (OpenSpec.ofChange phaseRoundWrong)

/- THE SECOND FORM. 'bulk': how many values and letters a reading holds, each counted each time it is reached (what is shared counts as often as it is met; a slice's spare places count too). A statement '..UptoSaid' is the law's where the arguments, and the package variables that the reading takes, are together of bulk at most 1048576: NARROWER than '..Said'. Prove '..Said' where nothing that the law and all that it calls make is longer than what came in: it says more and counts as full. Else prove '..UptoSaid'. A law counts once. -/
mutual
def uptoBulk {H : Type} : DataW H → Nat
  | .lit (.string bytes) => bytes.length + 1
  | .lit _ => 1
  | .nil => 1
  | .ptr d => uptoBulk d + 1
  | .slice elems spare => uptoBulkAll elems + uptoBulkAll spare + 1
  | .agg parts => uptoBulkAll parts + 1
  | .iface _ d => uptoBulk d + 1
  | .map entries => uptoBulkEntries entries + 1
  | .held _ => 1
def uptoBulkAll {H : Type} : List (DataW H) → Nat
  | [] => 0
  | d :: r => uptoBulk d + uptoBulkAll r
def uptoBulkEntries {H : Type} : List (Lit × DataW H) → Nat
  | [] => 0
  | x :: r => uptoBulkEntry x + uptoBulkEntries r
def uptoBulkEntry {H : Type} : Lit × DataW H → Nat
  | (.string bytes, d) => bytes.length + uptoBulk d + 1
  | (_, d) => uptoBulk d + 1
 end
def uptoSmall : (H : Type) → List (DataW H) → Bool := fun _ ds => decide (uptoBulkAll ds ≤ 1048576)
def OpenSpec.upto (s : _root_.Go.ChangeSpec) : _root_.Go.OpenSpec := { _root_.Go.OpenSpec.ofChange s with cond := some uptoSmall }

/-- 'copyholdlaw15.PhaseLeads', WHERE WHAT IT READS IS OF BULK AT MOST 1048576: true; the input reads as it did. -/
def phaseLeadsUptoRow : OpenClaim := { program := "ytbgohgligponiaadoor", sum := "dd81e120840b8e0a41906bc5e7a6caa717be3b3903ba8b8573d41bbee92838f9", func := "copyhold/copyholdlaw15.PhaseLeads", spec := "phaseLeads", named := ["copyhold/phase.names"], apart := false, laid := [("copyhold/phase.names", laid_copyhold_phase_names)], narrowed := true }
def PhaseLeadsUptoSaid : Prop := phaseLeadsUptoRow.holds Tryd.pinned (OpenSpec.upto phaseLeadsSpec)

/-- 'copyholdlaw15.PhaseRound', WHERE WHAT IT READS IS OF BULK AT MOST 1048576: true; the input reads as it did. -/
def phaseRoundUptoRow : OpenClaim := { program := "ytbgohgligponiaadoor", sum := "dd81e120840b8e0a41906bc5e7a6caa717be3b3903ba8b8573d41bbee92838f9", func := "copyhold/copyholdlaw15.PhaseRound", spec := "phaseRound", named := ["copyhold/phase.names"], apart := false, laid := [("copyhold/phase.names", laid_copyhold_phase_names)], narrowed := true }
def PhaseRoundUptoSaid : Prop := phaseRoundUptoRow.holds Tryd.pinned (OpenSpec.upto phaseRoundSpec)

end Rows
end Go.Proofs.YtbgohgligponiaaDoor
