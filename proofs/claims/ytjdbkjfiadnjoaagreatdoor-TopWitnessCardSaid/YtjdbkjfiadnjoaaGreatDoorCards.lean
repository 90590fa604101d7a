/-
  DERIVED. GIVEN WITH THE SEED: THE CARDS: each row of YtjdbkjfiadnjoaaGreatDoorRows.lean that lists a variable, with what it lists TIED to the program's text (the seventh form; the later family's looks); each row that meets fmt, with fmt's text TOLD by the authors' own Lean function (tested against real Go, not proved from fmt's source: count such statements apart). THE CARD IS WHAT COUNTS. Prove the row's statement (the work); the ties are given (YtjdbkjfiadnjoaaGreatDoorTie.lean); close each card by the builder's one call (the guide's Derived/Test/ToyasCard.lean, 'card_holds'). Laid BY PROGRAM, IN A SANDBOX (cutbox-door.mjs). By AI agents, Wed Nov 11 2026. No macro, syntax, notation, axiom, sorry.
-/
import Derived.Test.YtjdbkjfiadnjoaaGreatDoorRows
import GoSem.ClaimSeven
namespace Go.Proofs.YtjdbkjfiadnjoaaGreatDoor
namespace Rows

/-- THE TIED CARD OF 'copyholdtop.TopWitness'. -/
def topWitnessCard : Claim7 := { stood := { row := topWitnessRow, standIns := [], harness := (true, "0f69cfc7a6dca095a25d0c0f31d35d2f77daf26745e414758f86aeb9f985f2db"), looks := true }, kinds := [], alts := [], laidByText := true, laidKinds := [.pinned, .data, .sentinel, .sentinel, .data, .data, .data, .handle], laidTests := true, laidLooks := .later }
def TopWitnessCardSaid : Prop := Claim7.holds Tryz.pinned (.plain (OpenSpec.ofChange topWitnessSpec)) topWitnessCard

/-- THE SECOND FORM's CARD OF 'copyholdtop.TopWitness'. -/
def topWitnessUptoCard : Claim7 := { stood := { row := topWitnessUptoRow, standIns := [], harness := (true, "0f69cfc7a6dca095a25d0c0f31d35d2f77daf26745e414758f86aeb9f985f2db"), looks := true }, kinds := [], alts := [], laidByText := true, laidKinds := [.pinned, .data, .sentinel, .sentinel, .data, .data, .data, .handle], laidTests := true, laidLooks := .later }
def TopWitnessUptoCardSaid : Prop := Claim7.holds Tryz.pinned (.plain (OpenSpec.upto topWitnessSpec)) topWitnessUptoCard
end Rows
end Go.Proofs.YtjdbkjfiadnjoaaGreatDoor
