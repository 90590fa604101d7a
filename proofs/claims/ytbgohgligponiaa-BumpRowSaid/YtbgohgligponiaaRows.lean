/-
  No cell of these rows narrows 'for every input' (looked for: loops, veiled, ifaces, maps, wideKeys, modest, calm, conditions, laid).
  DERIVED. THE GIVEN ROWS OF THIS SEAT. 10 by the template 'for every input the law returns true; each argument reads behind the call as it read before'; 0 by the template 'total and deterministic' (their statements: YtbgohgligponiaaTotals.lean).
  GIVEN WITH THE SEED: the statements are not yours to turn. If you find one false, say at which input.
  Laid BY PROGRAM, IN A SANDBOX (cutbox-rows.mjs): the forced cells as the released guide's own fill.sh prints them over the translation b01b0b73a688fb1b… (all of the seat's roots in one cut). By AI agents, Wed Nov 11 2026. No macro, syntax, notation, axiom, sorry.
-/
import Derived.Test.YtbgohgligponiaaChecked
import GoSem.Claim
import GoSem.ClaimJoined
import GoSem.ClaimMapViews
import Derived.JoinedTies
import Derived.KernelRfl
namespace Go.Proofs.Ytbgohgligponiaa
/- THE CELL 'sum', in the pinned program and in every row, IS THE sha256 OF THE DUMP (.gsa) THAT YtbgohgligponiaaProg.lean LOADS. Nothing in Lean hashes anything: it is a label: what it is worth is what the hold of that sum in a sandbox is worth. -/
noncomputable def Try.pinned : Pinned := { name := "ytbgohgligponiaa", sum := "b01b0b73a688fb1b208cf5f4b8e6846b7e07fd384d5b2a9d69be9357f303e036", checked := Try.checked }
namespace Rows
def none {H : Type} : Left H := { results := [], args := [] }

/-- 'copyholdlaw07.HandlePuts': WHATEVER THE INPUT: true; the input reads as it did. -/
def handlePutsSpec : ChangeSpec := { name := "handlePuts", fn := fun _ => fun
  | [d1, d2] => { results := [.lit (.bool true)], args := [d1, d2] }
  | _ => none }
def handlePutsRow : OpenClaim := { program := "ytbgohgligponiaa", sum := "b01b0b73a688fb1b208cf5f4b8e6846b7e07fd384d5b2a9d69be9357f303e036", func := "copyhold/copyholdlaw07.HandlePuts", spec := "handlePuts", apart := false }
def HandlePutsSaid : Prop := handlePutsRow.holds Try.pinned (OpenSpec.ofChange handlePutsSpec)

/-- ITS FALSE NEIGHBOUR: 'it returns false'. Refute it at one input. -/
def handlePutsWrong : ChangeSpec := { name := "handlePuts", fn := fun _ => fun
  | [d1, d2] => { results := [.lit (.bool false)], args := [d1, d2] }
  | _ => none }
def HandlePutsWrongFalsely : Prop := handlePutsRow.holds Try.pinned (OpenSpec.ofChange handlePutsWrong)

/-- 'copyholdlaw07.HandleBack': WHATEVER THE INPUT: true; the input reads as it did. -/
def handleBackSpec : ChangeSpec := { name := "handleBack", fn := fun _ => fun
  | [d1, d2, d3] => { results := [.lit (.bool true)], args := [d1, d2, d3] }
  | _ => none }
def handleBackRow : OpenClaim := { program := "ytbgohgligponiaa", sum := "b01b0b73a688fb1b208cf5f4b8e6846b7e07fd384d5b2a9d69be9357f303e036", func := "copyhold/copyholdlaw07.HandleBack", spec := "handleBack", apart := false }
def HandleBackSaid : Prop := handleBackRow.holds Try.pinned (OpenSpec.ofChange handleBackSpec)

/-- ITS FALSE NEIGHBOUR: 'it returns false'. Refute it at one input. -/
def handleBackWrong : ChangeSpec := { name := "handleBack", fn := fun _ => fun
  | [d1, d2, d3] => { results := [.lit (.bool false)], args := [d1, d2, d3] }
  | _ => none }
def HandleBackWrongFalsely : Prop := handleBackRow.holds Try.pinned (OpenSpec.ofChange handleBackWrong)

/-- 'copyholdlaw26.AccountDoes': WHATEVER THE INPUT: true; the input reads as it did. -/
def accountDoesSpec : ChangeSpec := { name := "accountDoes", fn := fun _ => fun
  | [d1, d2] => { results := [.lit (.bool true)], args := [d1, d2] }
  | _ => none }
def accountDoesRow : OpenClaim := { program := "ytbgohgligponiaa", sum := "b01b0b73a688fb1b208cf5f4b8e6846b7e07fd384d5b2a9d69be9357f303e036", func := "copyhold/copyholdlaw26.AccountDoes", spec := "accountDoes", unfollowed := true, recurses := true, apart := false }
def AccountDoesSaid : Prop := accountDoesRow.holds Try.pinned (OpenSpec.ofChange accountDoesSpec)

/-- ITS FALSE NEIGHBOUR: 'it returns false'. Refute it at one input. -/
def accountDoesWrong : ChangeSpec := { name := "accountDoes", fn := fun _ => fun
  | [d1, d2] => { results := [.lit (.bool false)], args := [d1, d2] }
  | _ => none }
def AccountDoesWrongFalsely : Prop := accountDoesRow.holds Try.pinned (OpenSpec.ofChange accountDoesWrong)

/-- 'copyholdlaw26.AccountKeeps': WHATEVER THE INPUT: true; the input reads as it did. -/
def accountKeepsSpec : ChangeSpec := { name := "accountKeeps", fn := fun _ => fun
  | [d1, d2] => { results := [.lit (.bool true)], args := [d1, d2] }
  | _ => none }
def accountKeepsRow : OpenClaim := { program := "ytbgohgligponiaa", sum := "b01b0b73a688fb1b208cf5f4b8e6846b7e07fd384d5b2a9d69be9357f303e036", func := "copyhold/copyholdlaw26.AccountKeeps", spec := "accountKeeps", unfollowed := true, recurses := true, apart := false }
def AccountKeepsSaid : Prop := accountKeepsRow.holds Try.pinned (OpenSpec.ofChange accountKeepsSpec)

/-- ITS FALSE NEIGHBOUR: 'it returns false'. Refute it at one input. -/
def accountKeepsWrong : ChangeSpec := { name := "accountKeeps", fn := fun _ => fun
  | [d1, d2] => { results := [.lit (.bool false)], args := [d1, d2] }
  | _ => none }
def AccountKeepsWrongFalsely : Prop := accountKeepsRow.holds Try.pinned (OpenSpec.ofChange accountKeepsWrong)

/-- 'copyholdlaw26.AccountBack': WHATEVER THE INPUT: true; the input reads as it did. -/
def accountBackSpec : ChangeSpec := { name := "accountBack", fn := fun _ => fun
  | [d1, d2] => { results := [.lit (.bool true)], args := [d1, d2] }
  | _ => none }
def accountBackRow : OpenClaim := { program := "ytbgohgligponiaa", sum := "b01b0b73a688fb1b208cf5f4b8e6846b7e07fd384d5b2a9d69be9357f303e036", func := "copyhold/copyholdlaw26.AccountBack", spec := "accountBack", unfollowed := true, recurses := true, apart := false }
def AccountBackSaid : Prop := accountBackRow.holds Try.pinned (OpenSpec.ofChange accountBackSpec)

/-- ITS FALSE NEIGHBOUR: 'it returns false'. Refute it at one input. -/
def accountBackWrong : ChangeSpec := { name := "accountBack", fn := fun _ => fun
  | [d1, d2] => { results := [.lit (.bool false)], args := [d1, d2] }
  | _ => none }
def AccountBackWrongFalsely : Prop := accountBackRow.holds Try.pinned (OpenSpec.ofChange accountBackWrong)

/-- 'copyholdlaw22.DrainWhen': WHATEVER THE INPUT: true; the input reads as it did. -/
def drainWhenSpec : ChangeSpec := { name := "drainWhen", fn := fun _ => fun
  | [d1, d2, d3] => { results := [.lit (.bool true)], args := [d1, d2, d3] }
  | _ => none }
def drainWhenRow : OpenClaim := { program := "ytbgohgligponiaa", sum := "b01b0b73a688fb1b208cf5f4b8e6846b7e07fd384d5b2a9d69be9357f303e036", func := "copyhold/copyholdlaw22.DrainWhen", spec := "drainWhen", unfollowed := true, recurses := true, apart := false }
def DrainWhenSaid : Prop := drainWhenRow.holds Try.pinned (OpenSpec.ofChange drainWhenSpec)

/-- ITS FALSE NEIGHBOUR: 'it returns false'. Refute it at one input. -/
def drainWhenWrong : ChangeSpec := { name := "drainWhen", fn := fun _ => fun
  | [d1, d2, d3] => { results := [.lit (.bool false)], args := [d1, d2, d3] }
  | _ => none }
def DrainWhenWrongFalsely : Prop := drainWhenRow.holds Try.pinned (OpenSpec.ofChange drainWhenWrong)

/-- 'copyholdlaw09.BumpPlaces': WHATEVER THE INPUT: true; the input reads as it did. -/
def bumpPlacesSpec : ChangeSpec := { name := "bumpPlaces", fn := fun _ => fun
  | [d] => { results := [.lit (.bool true)], args := [d] }
  | _ => none }
def bumpPlacesRow : OpenClaim := { program := "ytbgohgligponiaa", sum := "b01b0b73a688fb1b208cf5f4b8e6846b7e07fd384d5b2a9d69be9357f303e036", func := "copyhold/copyholdlaw09.BumpPlaces", spec := "bumpPlaces", apart := false }
def BumpPlacesSaid : Prop := bumpPlacesRow.holds Try.pinned (OpenSpec.ofChange bumpPlacesSpec)

/-- ITS FALSE NEIGHBOUR: 'it returns false'. Refute it at one input. -/
def bumpPlacesWrong : ChangeSpec := { name := "bumpPlaces", fn := fun _ => fun
  | [d] => { results := [.lit (.bool false)], args := [d] }
  | _ => none }
def BumpPlacesWrongFalsely : Prop := bumpPlacesRow.holds Try.pinned (OpenSpec.ofChange bumpPlacesWrong)

/-- 'copyholdlaw09.BumpRow': WHATEVER THE INPUT: true; the input reads as it did. -/
def bumpRowSpec : ChangeSpec := { name := "bumpRow", fn := fun _ => fun
  | [d1, d2] => { results := [.lit (.bool true)], args := [d1, d2] }
  | _ => none }
def bumpRowRow : OpenClaim := { program := "ytbgohgligponiaa", sum := "b01b0b73a688fb1b208cf5f4b8e6846b7e07fd384d5b2a9d69be9357f303e036", func := "copyhold/copyholdlaw09.BumpRow", spec := "bumpRow", apart := false }
def BumpRowSaid : Prop := bumpRowRow.holds Try.pinned (OpenSpec.ofChange bumpRowSpec)

/-- ITS FALSE NEIGHBOUR: 'it returns false'. Refute it at one input. -/
def bumpRowWrong : ChangeSpec := { name := "bumpRow", fn := fun _ => fun
  | [d1, d2] => { results := [.lit (.bool false)], args := [d1, d2] }
  | _ => none }
def BumpRowWrongFalsely : Prop := bumpRowRow.holds Try.pinned (OpenSpec.ofChange bumpRowWrong)

/-- 'copyholdlaw22.DrainTells': WHATEVER THE INPUT: true; the input reads as it did. -/
def drainTellsSpec : ChangeSpec := { name := "drainTells", fn := fun _ => fun
  | [d1, d2, d3] => { results := [.lit (.bool true)], args := [d1, d2, d3] }
  | _ => none }
def drainTellsRow : OpenClaim := { program := "ytbgohgligponiaa", sum := "b01b0b73a688fb1b208cf5f4b8e6846b7e07fd384d5b2a9d69be9357f303e036", func := "copyhold/copyholdlaw22.DrainTells", spec := "drainTells", unfollowed := true, recurses := true, apart := false }
def DrainTellsSaid : Prop := drainTellsRow.holds Try.pinned (OpenSpec.ofChange drainTellsSpec)

/-- ITS FALSE NEIGHBOUR: 'it returns false'. Refute it at one input. -/
def drainTellsWrong : ChangeSpec := { name := "drainTells", fn := fun _ => fun
  | [d1, d2, d3] => { results := [.lit (.bool false)], args := [d1, d2, d3] }
  | _ => none }
def DrainTellsWrongFalsely : Prop := drainTellsRow.holds Try.pinned (OpenSpec.ofChange drainTellsWrong)

/-- 'copyholdlaw22.DrainSum': WHATEVER THE INPUT: true; the input reads as it did. -/
def drainSumSpec : ChangeSpec := { name := "drainSum", fn := fun _ => fun
  | [d1, d2, d3] => { results := [.lit (.bool true)], args := [d1, d2, d3] }
  | _ => none }
def drainSumRow : OpenClaim := { program := "ytbgohgligponiaa", sum := "b01b0b73a688fb1b208cf5f4b8e6846b7e07fd384d5b2a9d69be9357f303e036", func := "copyhold/copyholdlaw22.DrainSum", spec := "drainSum", unfollowed := true, recurses := true, apart := false }
def DrainSumSaid : Prop := drainSumRow.holds Try.pinned (OpenSpec.ofChange drainSumSpec)

/-- ITS FALSE NEIGHBOUR: 'it returns false'. Refute it at one input. -/
def drainSumWrong : ChangeSpec := { name := "drainSum", fn := fun _ => fun
  | [d1, d2, d3] => { results := [.lit (.bool false)], args := [d1, d2, d3] }
  | _ => none }
def DrainSumWrongFalsely : Prop := drainSumRow.holds Try.pinned (OpenSpec.ofChange drainSumWrong)

/- THE SECOND FORM. 'bulk': how many values and letters a reading holds, each counted each time it is reached (what is shared counts as often as it is met; a slice's spare places count too). A statement '..UptoSaid' is the law's where the arguments, and the package variables that the reading takes, are together of bulk at most 1048576: NARROWER than '..Said'. Prove '..Said' where nothing that the law and all that it calls make is longer than what came in: it says more and counts as full. Else prove '..UptoSaid'. A law counts once. -/
mutual
def uptoBulk {H : Type} : DataW H → Nat
  | .lit (.string bytes) => bytes.length + 1
  | .lit _ => 1
  | .nil => 1
  | .ptr d => uptoBulk d + 1
  | .slice elems spare => uptoBulkAll elems + uptoBulkAll spare + 1
  | .agg parts => uptoBulkAll parts + 1
  | .iface _ d => uptoBulk d + 1
  | .map entries => uptoBulkEntries entries + 1
  | .held _ => 1
def uptoBulkAll {H : Type} : List (DataW H) → Nat
  | [] => 0
  | d :: r => uptoBulk d + uptoBulkAll r
def uptoBulkEntries {H : Type} : List (Lit × DataW H) → Nat
  | [] => 0
  | x :: r => uptoBulkEntry x + uptoBulkEntries r
def uptoBulkEntry {H : Type} : Lit × DataW H → Nat
  | (.string bytes, d) => bytes.length + uptoBulk d + 1
  | (_, d) => uptoBulk d + 1
 end
def uptoSmall : (H : Type) → List (DataW H) → Bool := fun _ ds => decide (uptoBulkAll ds ≤ 1048576)
def OpenSpec.upto (s : _root_.Go.ChangeSpec) : _root_.Go.OpenSpec := { _root_.Go.OpenSpec.ofChange s with cond := some uptoSmall }

/-- 'copyholdlaw07.HandlePuts', WHERE WHAT IT READS IS OF BULK AT MOST 1048576: true; the input reads as it did. -/
def handlePutsUptoRow : OpenClaim := { program := "ytbgohgligponiaa", sum := "b01b0b73a688fb1b208cf5f4b8e6846b7e07fd384d5b2a9d69be9357f303e036", func := "copyhold/copyholdlaw07.HandlePuts", spec := "handlePuts", apart := false, narrowed := true }
def HandlePutsUptoSaid : Prop := handlePutsUptoRow.holds Try.pinned (OpenSpec.upto handlePutsSpec)

/-- 'copyholdlaw07.HandleBack', WHERE WHAT IT READS IS OF BULK AT MOST 1048576: true; the input reads as it did. -/
def handleBackUptoRow : OpenClaim := { program := "ytbgohgligponiaa", sum := "b01b0b73a688fb1b208cf5f4b8e6846b7e07fd384d5b2a9d69be9357f303e036", func := "copyhold/copyholdlaw07.HandleBack", spec := "handleBack", apart := false, narrowed := true }
def HandleBackUptoSaid : Prop := handleBackUptoRow.holds Try.pinned (OpenSpec.upto handleBackSpec)

/-- 'copyholdlaw26.AccountDoes', WHERE WHAT IT READS IS OF BULK AT MOST 1048576: true; the input reads as it did. -/
def accountDoesUptoRow : OpenClaim := { program := "ytbgohgligponiaa", sum := "b01b0b73a688fb1b208cf5f4b8e6846b7e07fd384d5b2a9d69be9357f303e036", func := "copyhold/copyholdlaw26.AccountDoes", spec := "accountDoes", unfollowed := true, recurses := true, apart := false, narrowed := true }
def AccountDoesUptoSaid : Prop := accountDoesUptoRow.holds Try.pinned (OpenSpec.upto accountDoesSpec)

/-- 'copyholdlaw26.AccountKeeps', WHERE WHAT IT READS IS OF BULK AT MOST 1048576: true; the input reads as it did. -/
def accountKeepsUptoRow : OpenClaim := { program := "ytbgohgligponiaa", sum := "b01b0b73a688fb1b208cf5f4b8e6846b7e07fd384d5b2a9d69be9357f303e036", func := "copyhold/copyholdlaw26.AccountKeeps", spec := "accountKeeps", unfollowed := true, recurses := true, apart := false, narrowed := true }
def AccountKeepsUptoSaid : Prop := accountKeepsUptoRow.holds Try.pinned (OpenSpec.upto accountKeepsSpec)

/-- 'copyholdlaw26.AccountBack', WHERE WHAT IT READS IS OF BULK AT MOST 1048576: true; the input reads as it did. -/
def accountBackUptoRow : OpenClaim := { program := "ytbgohgligponiaa", sum := "b01b0b73a688fb1b208cf5f4b8e6846b7e07fd384d5b2a9d69be9357f303e036", func := "copyhold/copyholdlaw26.AccountBack", spec := "accountBack", unfollowed := true, recurses := true, apart := false, narrowed := true }
def AccountBackUptoSaid : Prop := accountBackUptoRow.holds Try.pinned (OpenSpec.upto accountBackSpec)

/-- 'copyholdlaw22.DrainWhen', WHERE WHAT IT READS IS OF BULK AT MOST 1048576: true; the input reads as it did. -/
def drainWhenUptoRow : OpenClaim := { program := "ytbgohgligponiaa", sum := "b01b0b73a688fb1b208cf5f4b8e6846b7e07fd384d5b2a9d69be9357f303e036", func := "copyhold/copyholdlaw22.DrainWhen", spec := "drainWhen", unfollowed := true, recurses := true, apart := false, narrowed := true }
def DrainWhenUptoSaid : Prop := drainWhenUptoRow.holds Try.pinned (OpenSpec.upto drainWhenSpec)

/-- 'copyholdlaw09.BumpPlaces', WHERE WHAT IT READS IS OF BULK AT MOST 1048576: true; the input reads as it did. -/
def bumpPlacesUptoRow : OpenClaim := { program := "ytbgohgligponiaa", sum := "b01b0b73a688fb1b208cf5f4b8e6846b7e07fd384d5b2a9d69be9357f303e036", func := "copyhold/copyholdlaw09.BumpPlaces", spec := "bumpPlaces", apart := false, narrowed := true }
def BumpPlacesUptoSaid : Prop := bumpPlacesUptoRow.holds Try.pinned (OpenSpec.upto bumpPlacesSpec)

/-- 'copyholdlaw09.BumpRow', WHERE WHAT IT READS IS OF BULK AT MOST 1048576: true; the input reads as it did. -/
def bumpRowUptoRow : OpenClaim := { program := "ytbgohgligponiaa", sum := "b01b0b73a688fb1b208cf5f4b8e6846b7e07fd384d5b2a9d69be9357f303e036", func := "copyhold/copyholdlaw09.BumpRow", spec := "bumpRow", apart := false, narrowed := true }
def BumpRowUptoSaid : Prop := bumpRowUptoRow.holds Try.pinned (OpenSpec.upto bumpRowSpec)

/-- 'copyholdlaw22.DrainTells', WHERE WHAT IT READS IS OF BULK AT MOST 1048576: true; the input reads as it did. -/
def drainTellsUptoRow : OpenClaim := { program := "ytbgohgligponiaa", sum := "b01b0b73a688fb1b208cf5f4b8e6846b7e07fd384d5b2a9d69be9357f303e036", func := "copyhold/copyholdlaw22.DrainTells", spec := "drainTells", unfollowed := true, recurses := true, apart := false, narrowed := true }
def DrainTellsUptoSaid : Prop := drainTellsUptoRow.holds Try.pinned (OpenSpec.upto drainTellsSpec)

/-- 'copyholdlaw22.DrainSum', WHERE WHAT IT READS IS OF BULK AT MOST 1048576: true; the input reads as it did. -/
def drainSumUptoRow : OpenClaim := { program := "ytbgohgligponiaa", sum := "b01b0b73a688fb1b208cf5f4b8e6846b7e07fd384d5b2a9d69be9357f303e036", func := "copyhold/copyholdlaw22.DrainSum", spec := "drainSum", unfollowed := true, recurses := true, apart := false, narrowed := true }
def DrainSumUptoSaid : Prop := drainSumUptoRow.holds Try.pinned (OpenSpec.upto drainSumSpec)

end Rows
end Go.Proofs.Ytbgohgligponiaa
