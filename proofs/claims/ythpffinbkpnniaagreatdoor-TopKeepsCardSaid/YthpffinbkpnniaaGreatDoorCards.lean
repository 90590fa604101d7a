/-
  DERIVED. GIVEN WITH THE SEED: THE CARDS: each row of YthpffinbkpnniaaGreatDoorRows.lean that lists a variable, with what it lists TIED to the program's text (the seventh form; the later family's looks); each row that meets fmt, with fmt's text TOLD by the authors' own Lean function (tested against real Go, not proved from fmt's source: count such statements apart). THE CARD IS WHAT COUNTS. Prove the row's statement (the work); the ties are given (YthpffinbkpnniaaGreatDoorTie.lean); close each card by the builder's one call (the guide's Derived/Test/ToyasCard.lean, 'card_holds'). Laid BY PROGRAM, IN A SANDBOX (cutbox-door.mjs). By AI agents, Wed Nov 11 2026. No macro, syntax, notation, axiom, sorry.
-/
import Derived.Test.YthpffinbkpnniaaGreatDoorRows
import GoSem.ClaimSeven
namespace Go.Proofs.YthpffinbkpnniaaGreatDoor
namespace Rows

/-- THE TIED CARD OF 'copyholdtop.TopGranted'. -/
def topGrantedCard : Claim7 := { stood := { row := topGrantedRow, standIns := [], harness := (true, "f40cfc0665a3d2714d224bfe06d0a2f6283111df65ab0b0e00c4af5f435d14ab"), looks := true }, kinds := [], alts := [], laidByText := true, laidKinds := [.pinned, .data, .sentinel, .sentinel, .data, .data, .data, .handle], laidTests := true, laidLooks := .later }
def TopGrantedCardSaid : Prop := Claim7.holds Tryz.pinned (.plain (OpenSpec.ofChange topGrantedSpec)) topGrantedCard

/-- THE TIED CARD OF 'copyholdtop.TopQuiet'. -/
def topQuietCard : Claim7 := { stood := { row := topQuietRow, standIns := [], harness := (true, "f40cfc0665a3d2714d224bfe06d0a2f6283111df65ab0b0e00c4af5f435d14ab"), looks := true }, kinds := [], alts := [], laidByText := true, laidKinds := [.pinned, .data, .sentinel, .sentinel, .data, .data, .data, .handle], laidTests := true, laidLooks := .later }
def TopQuietCardSaid : Prop := Claim7.holds Tryz.pinned (.plain (OpenSpec.ofChange topQuietSpec)) topQuietCard

/-- THE TIED CARD OF 'copyholdtop.TopKeeps'. -/
def topKeepsCard : Claim7 := { stood := { row := topKeepsRow, standIns := [], harness := (true, "f40cfc0665a3d2714d224bfe06d0a2f6283111df65ab0b0e00c4af5f435d14ab"), looks := true }, kinds := [], alts := [], laidByText := true, laidKinds := [.pinned, .data, .sentinel, .sentinel, .data, .data, .data, .handle], laidTests := true, laidLooks := .later }
def TopKeepsCardSaid : Prop := Claim7.holds Tryz.pinned (.plain (OpenSpec.ofChange topKeepsSpec)) topKeepsCard

/-- THE SECOND FORM's CARD OF 'copyholdtop.TopGranted'. -/
def topGrantedUptoCard : Claim7 := { stood := { row := topGrantedUptoRow, standIns := [], harness := (true, "f40cfc0665a3d2714d224bfe06d0a2f6283111df65ab0b0e00c4af5f435d14ab"), looks := true }, kinds := [], alts := [], laidByText := true, laidKinds := [.pinned, .data, .sentinel, .sentinel, .data, .data, .data, .handle], laidTests := true, laidLooks := .later }
def TopGrantedUptoCardSaid : Prop := Claim7.holds Tryz.pinned (.plain (OpenSpec.upto topGrantedSpec)) topGrantedUptoCard

/-- THE SECOND FORM's CARD OF 'copyholdtop.TopQuiet'. -/
def topQuietUptoCard : Claim7 := { stood := { row := topQuietUptoRow, standIns := [], harness := (true, "f40cfc0665a3d2714d224bfe06d0a2f6283111df65ab0b0e00c4af5f435d14ab"), looks := true }, kinds := [], alts := [], laidByText := true, laidKinds := [.pinned, .data, .sentinel, .sentinel, .data, .data, .data, .handle], laidTests := true, laidLooks := .later }
def TopQuietUptoCardSaid : Prop := Claim7.holds Tryz.pinned (.plain (OpenSpec.upto topQuietSpec)) topQuietUptoCard

/-- THE SECOND FORM's CARD OF 'copyholdtop.TopKeeps'. -/
def topKeepsUptoCard : Claim7 := { stood := { row := topKeepsUptoRow, standIns := [], harness := (true, "f40cfc0665a3d2714d224bfe06d0a2f6283111df65ab0b0e00c4af5f435d14ab"), looks := true }, kinds := [], alts := [], laidByText := true, laidKinds := [.pinned, .data, .sentinel, .sentinel, .data, .data, .data, .handle], laidTests := true, laidLooks := .later }
def TopKeepsUptoCardSaid : Prop := Claim7.holds Tryz.pinned (.plain (OpenSpec.upto topKeepsSpec)) topKeepsUptoCard
end Rows
end Go.Proofs.YthpffinbkpnniaaGreatDoor
