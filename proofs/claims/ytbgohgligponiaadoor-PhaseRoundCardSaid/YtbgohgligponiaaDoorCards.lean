/-
  DERIVED. GIVEN WITH THE SEED: THE CARDS: each row of YtbgohgligponiaaDoorRows.lean that lists a variable, with what it lists TIED to the program's text (the seventh form; the later family's looks); each row that meets fmt, with fmt's text TOLD by the authors' own Lean function (tested against real Go, not proved from fmt's source: count such statements apart). THE CARD IS WHAT COUNTS. Prove the row's statement (the work); the ties are given (YtbgohgligponiaaDoorTie.lean); close each card by the builder's one call (the guide's Derived/Test/ToyasCard.lean, 'card_holds'). Laid BY PROGRAM, IN A SANDBOX (cutbox-door.mjs). By AI agents, Wed Nov 11 2026. No macro, syntax, notation, axiom, sorry.
-/
import Derived.Test.YtbgohgligponiaaDoorRows
import GoSem.ClaimSeven
namespace Go.Proofs.YtbgohgligponiaaDoor
namespace Rows

/-- THE TIED CARD OF 'copyholdlaw15.PhaseLeads'. -/
def phaseLeadsCard : Claim7 := { stood := { row := phaseLeadsRow, standIns := [], harness := (true, "4c92b25434fff0ee453fd995c197d525dd79c13c0b5d37263dafd61fa2beecc6"), looks := false }, kinds := [], alts := [], laidByText := true, laidKinds := [.widerDeep], laidTests := true, laidLooks := .later }
def PhaseLeadsCardSaid : Prop := Claim7.holds Tryd.pinned (.plain (OpenSpec.ofChange phaseLeadsSpec)) phaseLeadsCard

/-- THE TIED CARD OF 'copyholdlaw15.PhaseRound'. -/
def phaseRoundCard : Claim7 := { stood := { row := phaseRoundRow, standIns := [], harness := (true, "4c92b25434fff0ee453fd995c197d525dd79c13c0b5d37263dafd61fa2beecc6"), looks := false }, kinds := [], alts := [], laidByText := true, laidKinds := [.widerDeep], laidTests := true, laidLooks := .later }
def PhaseRoundCardSaid : Prop := Claim7.holds Tryd.pinned (.plain (OpenSpec.ofChange phaseRoundSpec)) phaseRoundCard

/-- THE SECOND FORM's CARD OF 'copyholdlaw15.PhaseLeads'. -/
def phaseLeadsUptoCard : Claim7 := { stood := { row := phaseLeadsUptoRow, standIns := [], harness := (true, "4c92b25434fff0ee453fd995c197d525dd79c13c0b5d37263dafd61fa2beecc6"), looks := false }, kinds := [], alts := [], laidByText := true, laidKinds := [.widerDeep], laidTests := true, laidLooks := .later }
def PhaseLeadsUptoCardSaid : Prop := Claim7.holds Tryd.pinned (.plain (OpenSpec.upto phaseLeadsSpec)) phaseLeadsUptoCard

/-- THE SECOND FORM's CARD OF 'copyholdlaw15.PhaseRound'. -/
def phaseRoundUptoCard : Claim7 := { stood := { row := phaseRoundUptoRow, standIns := [], harness := (true, "4c92b25434fff0ee453fd995c197d525dd79c13c0b5d37263dafd61fa2beecc6"), looks := false }, kinds := [], alts := [], laidByText := true, laidKinds := [.widerDeep], laidTests := true, laidLooks := .later }
def PhaseRoundUptoCardSaid : Prop := Claim7.holds Tryd.pinned (.plain (OpenSpec.upto phaseRoundSpec)) phaseRoundUptoCard
end Rows
end Go.Proofs.YtbgohgligponiaaDoor
