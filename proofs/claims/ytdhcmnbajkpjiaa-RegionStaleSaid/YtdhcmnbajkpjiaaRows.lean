/-
  No cell of these rows narrows 'for every input' (looked for: loops, veiled, ifaces, maps, wideKeys, modest, calm, conditions, laid).
  DERIVED. THE GIVEN ROWS OF THIS SEAT. 14 by the template 'for every input the law returns true; each argument reads behind the call as it read before'; 0 by the template 'total and deterministic' (their statements: YtdhcmnbajkpjiaaTotals.lean).
  GIVEN WITH THE SEED: the statements are not yours to turn. If you find one false, say at which input.
  Laid BY PROGRAM, IN A SANDBOX (cutbox-rows.mjs): the forced cells as the released guide's own fill.sh prints them over the translation e89e0cbb17065372… (all of the seat's roots in one cut). By AI agents, Wed Nov 11 2026. No macro, syntax, notation, axiom, sorry.
-/
import Derived.Test.YtdhcmnbajkpjiaaChecked
import GoSem.Claim
import GoSem.ClaimJoined
import GoSem.ClaimMapViews
import Derived.JoinedTies
import Derived.KernelRfl
namespace Go.Proofs.Ytdhcmnbajkpjiaa
/- THE CELL 'sum', in the pinned program and in every row, IS THE sha256 OF THE DUMP (.gsa) THAT YtdhcmnbajkpjiaaProg.lean LOADS. Nothing in Lean hashes anything: it is a label: what it is worth is what the hold of that sum in a sandbox is worth. -/
noncomputable def Try.pinned : Pinned := { name := "ytdhcmnbajkpjiaa", sum := "e89e0cbb17065372a1dee14ca35188ebf2a5fe6b2eeb3f29c2e8c7c019895b5b", checked := Try.checked }
namespace Rows
def none {H : Type} : Left H := { results := [], args := [] }

/-- 'copyholdlaw05.ChainMoves': WHATEVER THE INPUT: true; the input reads as it did. -/
def chainMovesSpec : ChangeSpec := { name := "chainMoves", fn := fun _ => fun
  | [d1, d2] => { results := [.lit (.bool true)], args := [d1, d2] }
  | _ => none }
def chainMovesRow : OpenClaim := { program := "ytdhcmnbajkpjiaa", sum := "e89e0cbb17065372a1dee14ca35188ebf2a5fe6b2eeb3f29c2e8c7c019895b5b", func := "copyhold/copyholdlaw05.ChainMoves", spec := "chainMoves", unfollowed := true, recurses := true, apart := false }
def ChainMovesSaid : Prop := chainMovesRow.holds Try.pinned (OpenSpec.ofChange chainMovesSpec)

/-- ITS FALSE NEIGHBOUR: 'it returns false'. Refute it at one input. -/
def chainMovesWrong : ChangeSpec := { name := "chainMoves", fn := fun _ => fun
  | [d1, d2] => { results := [.lit (.bool false)], args := [d1, d2] }
  | _ => none }
def ChainMovesWrongFalsely : Prop := chainMovesRow.holds Try.pinned (OpenSpec.ofChange chainMovesWrong)

/-- 'copyholdlaw05.ChainPlays': WHATEVER THE INPUT: true; the input reads as it did. -/
def chainPlaysSpec : ChangeSpec := { name := "chainPlays", fn := fun _ => fun
  | [d1, d2, d3] => { results := [.lit (.bool true)], args := [d1, d2, d3] }
  | _ => none }
def chainPlaysRow : OpenClaim := { program := "ytdhcmnbajkpjiaa", sum := "e89e0cbb17065372a1dee14ca35188ebf2a5fe6b2eeb3f29c2e8c7c019895b5b", func := "copyhold/copyholdlaw05.ChainPlays", spec := "chainPlays", unfollowed := true, recurses := true, apart := false }
def ChainPlaysSaid : Prop := chainPlaysRow.holds Try.pinned (OpenSpec.ofChange chainPlaysSpec)

/-- ITS FALSE NEIGHBOUR: 'it returns false'. Refute it at one input. -/
def chainPlaysWrong : ChangeSpec := { name := "chainPlays", fn := fun _ => fun
  | [d1, d2, d3] => { results := [.lit (.bool false)], args := [d1, d2, d3] }
  | _ => none }
def ChainPlaysWrongFalsely : Prop := chainPlaysRow.holds Try.pinned (OpenSpec.ofChange chainPlaysWrong)

/-- 'copyholdlaw05.ChainBoth': WHATEVER THE INPUT: true; the input reads as it did. -/
def chainBothSpec : ChangeSpec := { name := "chainBoth", fn := fun _ => fun
  | [d1, d2] => { results := [.lit (.bool true)], args := [d1, d2] }
  | _ => none }
def chainBothRow : OpenClaim := { program := "ytdhcmnbajkpjiaa", sum := "e89e0cbb17065372a1dee14ca35188ebf2a5fe6b2eeb3f29c2e8c7c019895b5b", func := "copyhold/copyholdlaw05.ChainBoth", spec := "chainBoth", unfollowed := true, recurses := true, apart := false }
def ChainBothSaid : Prop := chainBothRow.holds Try.pinned (OpenSpec.ofChange chainBothSpec)

/-- ITS FALSE NEIGHBOUR: 'it returns false'. Refute it at one input. -/
def chainBothWrong : ChangeSpec := { name := "chainBoth", fn := fun _ => fun
  | [d1, d2] => { results := [.lit (.bool false)], args := [d1, d2] }
  | _ => none }
def ChainBothWrongFalsely : Prop := chainBothRow.holds Try.pinned (OpenSpec.ofChange chainBothWrong)

/-- 'copyholdlaw05.ChainJoins': WHATEVER THE INPUT: true; the input reads as it did. -/
def chainJoinsSpec : ChangeSpec := { name := "chainJoins", fn := fun _ => fun
  | [d1, d2] => { results := [.lit (.bool true)], args := [d1, d2] }
  | _ => none }
def chainJoinsRow : OpenClaim := { program := "ytdhcmnbajkpjiaa", sum := "e89e0cbb17065372a1dee14ca35188ebf2a5fe6b2eeb3f29c2e8c7c019895b5b", func := "copyhold/copyholdlaw05.ChainJoins", spec := "chainJoins", unfollowed := true, recurses := true, apart := false }
def ChainJoinsSaid : Prop := chainJoinsRow.holds Try.pinned (OpenSpec.ofChange chainJoinsSpec)

/-- ITS FALSE NEIGHBOUR: 'it returns false'. Refute it at one input. -/
def chainJoinsWrong : ChangeSpec := { name := "chainJoins", fn := fun _ => fun
  | [d1, d2] => { results := [.lit (.bool false)], args := [d1, d2] }
  | _ => none }
def ChainJoinsWrongFalsely : Prop := chainJoinsRow.holds Try.pinned (OpenSpec.ofChange chainJoinsWrong)

/-- 'copyholdlaw37.NodePlays': WHATEVER THE INPUT: true; the input reads as it did. -/
def nodePlaysSpec : ChangeSpec := { name := "nodePlays", fn := fun _ => fun
  | [d1, d2, d3] => { results := [.lit (.bool true)], args := [d1, d2, d3] }
  | _ => none }
def nodePlaysRow : OpenClaim := { program := "ytdhcmnbajkpjiaa", sum := "e89e0cbb17065372a1dee14ca35188ebf2a5fe6b2eeb3f29c2e8c7c019895b5b", func := "copyhold/copyholdlaw37.NodePlays", spec := "nodePlays", unfollowed := true, recurses := true, apart := false }
def NodePlaysSaid : Prop := nodePlaysRow.holds Try.pinned (OpenSpec.ofChange nodePlaysSpec)

/-- ITS FALSE NEIGHBOUR: 'it returns false'. Refute it at one input. -/
def nodePlaysWrong : ChangeSpec := { name := "nodePlays", fn := fun _ => fun
  | [d1, d2, d3] => { results := [.lit (.bool false)], args := [d1, d2, d3] }
  | _ => none }
def NodePlaysWrongFalsely : Prop := nodePlaysRow.holds Try.pinned (OpenSpec.ofChange nodePlaysWrong)

/-- 'copyholdlaw37.NodeOnce': WHATEVER THE INPUT: true; the input reads as it did. -/
def nodeOnceSpec : ChangeSpec := { name := "nodeOnce", fn := fun _ => fun
  | [d] => { results := [.lit (.bool true)], args := [d] }
  | _ => none }
def nodeOnceRow : OpenClaim := { program := "ytdhcmnbajkpjiaa", sum := "e89e0cbb17065372a1dee14ca35188ebf2a5fe6b2eeb3f29c2e8c7c019895b5b", func := "copyhold/copyholdlaw37.NodeOnce", spec := "nodeOnce", unfollowed := true, recurses := true, apart := false }
def NodeOnceSaid : Prop := nodeOnceRow.holds Try.pinned (OpenSpec.ofChange nodeOnceSpec)

/-- ITS FALSE NEIGHBOUR: 'it returns false'. Refute it at one input. -/
def nodeOnceWrong : ChangeSpec := { name := "nodeOnce", fn := fun _ => fun
  | [d] => { results := [.lit (.bool false)], args := [d] }
  | _ => none }
def NodeOnceWrongFalsely : Prop := nodeOnceRow.holds Try.pinned (OpenSpec.ofChange nodeOnceWrong)

/-- 'copyholdlaw33.QueuePlays': WHATEVER THE INPUT: true; the input reads as it did. -/
def queuePlaysSpec : ChangeSpec := { name := "queuePlays", fn := fun _ => fun
  | [d1, d2, d3] => { results := [.lit (.bool true)], args := [d1, d2, d3] }
  | _ => none }
def queuePlaysRow : OpenClaim := { program := "ytdhcmnbajkpjiaa", sum := "e89e0cbb17065372a1dee14ca35188ebf2a5fe6b2eeb3f29c2e8c7c019895b5b", func := "copyhold/copyholdlaw33.QueuePlays", spec := "queuePlays", unfollowed := true, recurses := true, apart := false }
def QueuePlaysSaid : Prop := queuePlaysRow.holds Try.pinned (OpenSpec.ofChange queuePlaysSpec)

/-- ITS FALSE NEIGHBOUR: 'it returns false'. Refute it at one input. -/
def queuePlaysWrong : ChangeSpec := { name := "queuePlays", fn := fun _ => fun
  | [d1, d2, d3] => { results := [.lit (.bool false)], args := [d1, d2, d3] }
  | _ => none }
def QueuePlaysWrongFalsely : Prop := queuePlaysRow.holds Try.pinned (OpenSpec.ofChange queuePlaysWrong)

/-- 'copyholdlaw33.QueueMost': WHATEVER THE INPUT: true; the input reads as it did. -/
def queueMostSpec : ChangeSpec := { name := "queueMost", fn := fun _ => fun
  | [d] => { results := [.lit (.bool true)], args := [d] }
  | _ => none }
def queueMostRow : OpenClaim := { program := "ytdhcmnbajkpjiaa", sum := "e89e0cbb17065372a1dee14ca35188ebf2a5fe6b2eeb3f29c2e8c7c019895b5b", func := "copyhold/copyholdlaw33.QueueMost", spec := "queueMost", unfollowed := true, recurses := true, apart := false }
def QueueMostSaid : Prop := queueMostRow.holds Try.pinned (OpenSpec.ofChange queueMostSpec)

/-- ITS FALSE NEIGHBOUR: 'it returns false'. Refute it at one input. -/
def queueMostWrong : ChangeSpec := { name := "queueMost", fn := fun _ => fun
  | [d] => { results := [.lit (.bool false)], args := [d] }
  | _ => none }
def QueueMostWrongFalsely : Prop := queueMostRow.holds Try.pinned (OpenSpec.ofChange queueMostWrong)

/-- 'copyholdlaw33.QueueNext': WHATEVER THE INPUT: true; the input reads as it did. -/
def queueNextSpec : ChangeSpec := { name := "queueNext", fn := fun _ => fun
  | [d] => { results := [.lit (.bool true)], args := [d] }
  | _ => none }
def queueNextRow : OpenClaim := { program := "ytdhcmnbajkpjiaa", sum := "e89e0cbb17065372a1dee14ca35188ebf2a5fe6b2eeb3f29c2e8c7c019895b5b", func := "copyhold/copyholdlaw33.QueueNext", spec := "queueNext", unfollowed := true, recurses := true, apart := false }
def QueueNextSaid : Prop := queueNextRow.holds Try.pinned (OpenSpec.ofChange queueNextSpec)

/-- ITS FALSE NEIGHBOUR: 'it returns false'. Refute it at one input. -/
def queueNextWrong : ChangeSpec := { name := "queueNext", fn := fun _ => fun
  | [d] => { results := [.lit (.bool false)], args := [d] }
  | _ => none }
def QueueNextWrongFalsely : Prop := queueNextRow.holds Try.pinned (OpenSpec.ofChange queueNextWrong)

/-- 'copyholdlaw38.WalkOrders': WHATEVER THE INPUT: true; the input reads as it did. -/
def walkOrdersSpec : ChangeSpec := { name := "walkOrders", fn := fun _ => fun
  | [d1, d2] => { results := [.lit (.bool true)], args := [d1, d2] }
  | _ => none }
def walkOrdersRow : OpenClaim := { program := "ytdhcmnbajkpjiaa", sum := "e89e0cbb17065372a1dee14ca35188ebf2a5fe6b2eeb3f29c2e8c7c019895b5b", func := "copyhold/copyholdlaw38.WalkOrders", spec := "walkOrders", unfollowed := true, recurses := true, apart := false }
def WalkOrdersSaid : Prop := walkOrdersRow.holds Try.pinned (OpenSpec.ofChange walkOrdersSpec)

/-- ITS FALSE NEIGHBOUR: 'it returns false'. Refute it at one input. -/
def walkOrdersWrong : ChangeSpec := { name := "walkOrders", fn := fun _ => fun
  | [d1, d2] => { results := [.lit (.bool false)], args := [d1, d2] }
  | _ => none }
def WalkOrdersWrongFalsely : Prop := walkOrdersRow.holds Try.pinned (OpenSpec.ofChange walkOrdersWrong)

/-- 'copyholdlaw38.WalkSums': WHATEVER THE INPUT: true; the input reads as it did. -/
def walkSumsSpec : ChangeSpec := { name := "walkSums", fn := fun _ => fun
  | [d] => { results := [.lit (.bool true)], args := [d] }
  | _ => none }
def walkSumsRow : OpenClaim := { program := "ytdhcmnbajkpjiaa", sum := "e89e0cbb17065372a1dee14ca35188ebf2a5fe6b2eeb3f29c2e8c7c019895b5b", func := "copyhold/copyholdlaw38.WalkSums", spec := "walkSums", unfollowed := true, recurses := true, apart := false }
def WalkSumsSaid : Prop := walkSumsRow.holds Try.pinned (OpenSpec.ofChange walkSumsSpec)

/-- ITS FALSE NEIGHBOUR: 'it returns false'. Refute it at one input. -/
def walkSumsWrong : ChangeSpec := { name := "walkSums", fn := fun _ => fun
  | [d] => { results := [.lit (.bool false)], args := [d] }
  | _ => none }
def WalkSumsWrongFalsely : Prop := walkSumsRow.holds Try.pinned (OpenSpec.ofChange walkSumsWrong)

/-- 'copyholdlaw38.WalkPaths': WHATEVER THE INPUT: true; the input reads as it did. -/
def walkPathsSpec : ChangeSpec := { name := "walkPaths", fn := fun _ => fun
  | [d1, d2] => { results := [.lit (.bool true)], args := [d1, d2] }
  | _ => none }
def walkPathsRow : OpenClaim := { program := "ytdhcmnbajkpjiaa", sum := "e89e0cbb17065372a1dee14ca35188ebf2a5fe6b2eeb3f29c2e8c7c019895b5b", func := "copyhold/copyholdlaw38.WalkPaths", spec := "walkPaths", unfollowed := true, recurses := true, apart := false }
def WalkPathsSaid : Prop := walkPathsRow.holds Try.pinned (OpenSpec.ofChange walkPathsSpec)

/-- ITS FALSE NEIGHBOUR: 'it returns false'. Refute it at one input. -/
def walkPathsWrong : ChangeSpec := { name := "walkPaths", fn := fun _ => fun
  | [d1, d2] => { results := [.lit (.bool false)], args := [d1, d2] }
  | _ => none }
def WalkPathsWrongFalsely : Prop := walkPathsRow.holds Try.pinned (OpenSpec.ofChange walkPathsWrong)

/-- 'copyholdlaw40.RegionRoom': WHATEVER THE INPUT: true; the input reads as it did. -/
def regionRoomSpec : ChangeSpec := { name := "regionRoom", fn := fun _ => fun
  | [d] => { results := [.lit (.bool true)], args := [d] }
  | _ => none }
def regionRoomRow : OpenClaim := { program := "ytdhcmnbajkpjiaa", sum := "e89e0cbb17065372a1dee14ca35188ebf2a5fe6b2eeb3f29c2e8c7c019895b5b", func := "copyhold/copyholdlaw40.RegionRoom", spec := "regionRoom", unfollowed := true, recurses := true, apart := false }
def RegionRoomSaid : Prop := regionRoomRow.holds Try.pinned (OpenSpec.ofChange regionRoomSpec)

/-- ITS FALSE NEIGHBOUR: 'it returns false'. Refute it at one input. -/
def regionRoomWrong : ChangeSpec := { name := "regionRoom", fn := fun _ => fun
  | [d] => { results := [.lit (.bool false)], args := [d] }
  | _ => none }
def RegionRoomWrongFalsely : Prop := regionRoomRow.holds Try.pinned (OpenSpec.ofChange regionRoomWrong)

/-- 'copyholdlaw40.RegionStale': WHATEVER THE INPUT: true; the input reads as it did. -/
def regionStaleSpec : ChangeSpec := { name := "regionStale", fn := fun _ => fun
  | [d1, d2] => { results := [.lit (.bool true)], args := [d1, d2] }
  | _ => none }
def regionStaleRow : OpenClaim := { program := "ytdhcmnbajkpjiaa", sum := "e89e0cbb17065372a1dee14ca35188ebf2a5fe6b2eeb3f29c2e8c7c019895b5b", func := "copyhold/copyholdlaw40.RegionStale", spec := "regionStale", unfollowed := true, recurses := true, apart := false }
def RegionStaleSaid : Prop := regionStaleRow.holds Try.pinned (OpenSpec.ofChange regionStaleSpec)

/-- ITS FALSE NEIGHBOUR: 'it returns false'. Refute it at one input. -/
def regionStaleWrong : ChangeSpec := { name := "regionStale", fn := fun _ => fun
  | [d1, d2] => { results := [.lit (.bool false)], args := [d1, d2] }
  | _ => none }
def RegionStaleWrongFalsely : Prop := regionStaleRow.holds Try.pinned (OpenSpec.ofChange regionStaleWrong)

/- THE SECOND FORM. 'bulk': how many values and letters a reading holds, each counted each time it is reached (what is shared counts as often as it is met; a slice's spare places count too). A statement '..UptoSaid' is the law's where the arguments, and the package variables that the reading takes, are together of bulk at most 1048576: NARROWER than '..Said'. Prove '..Said' where nothing that the law and all that it calls make is longer than what came in: it says more and counts as full. Else prove '..UptoSaid'. A law counts once. -/
mutual
def uptoBulk {H : Type} : DataW H → Nat
  | .lit (.string bytes) => bytes.length + 1
  | .lit _ => 1
  | .nil => 1
  | .ptr d => uptoBulk d + 1
  | .slice elems spare => uptoBulkAll elems + uptoBulkAll spare + 1
  | .agg parts => uptoBulkAll parts + 1
  | .iface _ d => uptoBulk d + 1
  | .map entries => uptoBulkEntries entries + 1
  | .held _ => 1
def uptoBulkAll {H : Type} : List (DataW H) → Nat
  | [] => 0
  | d :: r => uptoBulk d + uptoBulkAll r
def uptoBulkEntries {H : Type} : List (Lit × DataW H) → Nat
  | [] => 0
  | x :: r => uptoBulkEntry x + uptoBulkEntries r
def uptoBulkEntry {H : Type} : Lit × DataW H → Nat
  | (.string bytes, d) => bytes.length + uptoBulk d + 1
  | (_, d) => uptoBulk d + 1
 end
def uptoSmall : (H : Type) → List (DataW H) → Bool := fun _ ds => decide (uptoBulkAll ds ≤ 1048576)
def OpenSpec.upto (s : _root_.Go.ChangeSpec) : _root_.Go.OpenSpec := { _root_.Go.OpenSpec.ofChange s with cond := some uptoSmall }

/-- 'copyholdlaw05.ChainMoves', WHERE WHAT IT READS IS OF BULK AT MOST 1048576: true; the input reads as it did. -/
def chainMovesUptoRow : OpenClaim := { program := "ytdhcmnbajkpjiaa", sum := "e89e0cbb17065372a1dee14ca35188ebf2a5fe6b2eeb3f29c2e8c7c019895b5b", func := "copyhold/copyholdlaw05.ChainMoves", spec := "chainMoves", unfollowed := true, recurses := true, apart := false, narrowed := true }
def ChainMovesUptoSaid : Prop := chainMovesUptoRow.holds Try.pinned (OpenSpec.upto chainMovesSpec)

/-- 'copyholdlaw05.ChainPlays', WHERE WHAT IT READS IS OF BULK AT MOST 1048576: true; the input reads as it did. -/
def chainPlaysUptoRow : OpenClaim := { program := "ytdhcmnbajkpjiaa", sum := "e89e0cbb17065372a1dee14ca35188ebf2a5fe6b2eeb3f29c2e8c7c019895b5b", func := "copyhold/copyholdlaw05.ChainPlays", spec := "chainPlays", unfollowed := true, recurses := true, apart := false, narrowed := true }
def ChainPlaysUptoSaid : Prop := chainPlaysUptoRow.holds Try.pinned (OpenSpec.upto chainPlaysSpec)

/-- 'copyholdlaw05.ChainBoth', WHERE WHAT IT READS IS OF BULK AT MOST 1048576: true; the input reads as it did. -/
def chainBothUptoRow : OpenClaim := { program := "ytdhcmnbajkpjiaa", sum := "e89e0cbb17065372a1dee14ca35188ebf2a5fe6b2eeb3f29c2e8c7c019895b5b", func := "copyhold/copyholdlaw05.ChainBoth", spec := "chainBoth", unfollowed := true, recurses := true, apart := false, narrowed := true }
def ChainBothUptoSaid : Prop := chainBothUptoRow.holds Try.pinned (OpenSpec.upto chainBothSpec)

/-- 'copyholdlaw05.ChainJoins', WHERE WHAT IT READS IS OF BULK AT MOST 1048576: true; the input reads as it did. -/
def chainJoinsUptoRow : OpenClaim := { program := "ytdhcmnbajkpjiaa", sum := "e89e0cbb17065372a1dee14ca35188ebf2a5fe6b2eeb3f29c2e8c7c019895b5b", func := "copyhold/copyholdlaw05.ChainJoins", spec := "chainJoins", unfollowed := true, recurses := true, apart := false, narrowed := true }
def ChainJoinsUptoSaid : Prop := chainJoinsUptoRow.holds Try.pinned (OpenSpec.upto chainJoinsSpec)

/-- 'copyholdlaw37.NodePlays', WHERE WHAT IT READS IS OF BULK AT MOST 1048576: true; the input reads as it did. -/
def nodePlaysUptoRow : OpenClaim := { program := "ytdhcmnbajkpjiaa", sum := "e89e0cbb17065372a1dee14ca35188ebf2a5fe6b2eeb3f29c2e8c7c019895b5b", func := "copyhold/copyholdlaw37.NodePlays", spec := "nodePlays", unfollowed := true, recurses := true, apart := false, narrowed := true }
def NodePlaysUptoSaid : Prop := nodePlaysUptoRow.holds Try.pinned (OpenSpec.upto nodePlaysSpec)

/-- 'copyholdlaw37.NodeOnce', WHERE WHAT IT READS IS OF BULK AT MOST 1048576: true; the input reads as it did. -/
def nodeOnceUptoRow : OpenClaim := { program := "ytdhcmnbajkpjiaa", sum := "e89e0cbb17065372a1dee14ca35188ebf2a5fe6b2eeb3f29c2e8c7c019895b5b", func := "copyhold/copyholdlaw37.NodeOnce", spec := "nodeOnce", unfollowed := true, recurses := true, apart := false, narrowed := true }
def NodeOnceUptoSaid : Prop := nodeOnceUptoRow.holds Try.pinned (OpenSpec.upto nodeOnceSpec)

/-- 'copyholdlaw33.QueuePlays', WHERE WHAT IT READS IS OF BULK AT MOST 1048576: true; the input reads as it did. -/
def queuePlaysUptoRow : OpenClaim := { program := "ytdhcmnbajkpjiaa", sum := "e89e0cbb17065372a1dee14ca35188ebf2a5fe6b2eeb3f29c2e8c7c019895b5b", func := "copyhold/copyholdlaw33.QueuePlays", spec := "queuePlays", unfollowed := true, recurses := true, apart := false, narrowed := true }
def QueuePlaysUptoSaid : Prop := queuePlaysUptoRow.holds Try.pinned (OpenSpec.upto queuePlaysSpec)

/-- 'copyholdlaw33.QueueMost', WHERE WHAT IT READS IS OF BULK AT MOST 1048576: true; the input reads as it did. -/
def queueMostUptoRow : OpenClaim := { program := "ytdhcmnbajkpjiaa", sum := "e89e0cbb17065372a1dee14ca35188ebf2a5fe6b2eeb3f29c2e8c7c019895b5b", func := "copyhold/copyholdlaw33.QueueMost", spec := "queueMost", unfollowed := true, recurses := true, apart := false, narrowed := true }
def QueueMostUptoSaid : Prop := queueMostUptoRow.holds Try.pinned (OpenSpec.upto queueMostSpec)

/-- 'copyholdlaw33.QueueNext', WHERE WHAT IT READS IS OF BULK AT MOST 1048576: true; the input reads as it did. -/
def queueNextUptoRow : OpenClaim := { program := "ytdhcmnbajkpjiaa", sum := "e89e0cbb17065372a1dee14ca35188ebf2a5fe6b2eeb3f29c2e8c7c019895b5b", func := "copyhold/copyholdlaw33.QueueNext", spec := "queueNext", unfollowed := true, recurses := true, apart := false, narrowed := true }
def QueueNextUptoSaid : Prop := queueNextUptoRow.holds Try.pinned (OpenSpec.upto queueNextSpec)

/-- 'copyholdlaw38.WalkOrders', WHERE WHAT IT READS IS OF BULK AT MOST 1048576: true; the input reads as it did. -/
def walkOrdersUptoRow : OpenClaim := { program := "ytdhcmnbajkpjiaa", sum := "e89e0cbb17065372a1dee14ca35188ebf2a5fe6b2eeb3f29c2e8c7c019895b5b", func := "copyhold/copyholdlaw38.WalkOrders", spec := "walkOrders", unfollowed := true, recurses := true, apart := false, narrowed := true }
def WalkOrdersUptoSaid : Prop := walkOrdersUptoRow.holds Try.pinned (OpenSpec.upto walkOrdersSpec)

/-- 'copyholdlaw38.WalkSums', WHERE WHAT IT READS IS OF BULK AT MOST 1048576: true; the input reads as it did. -/
def walkSumsUptoRow : OpenClaim := { program := "ytdhcmnbajkpjiaa", sum := "e89e0cbb17065372a1dee14ca35188ebf2a5fe6b2eeb3f29c2e8c7c019895b5b", func := "copyhold/copyholdlaw38.WalkSums", spec := "walkSums", unfollowed := true, recurses := true, apart := false, narrowed := true }
def WalkSumsUptoSaid : Prop := walkSumsUptoRow.holds Try.pinned (OpenSpec.upto walkSumsSpec)

/-- 'copyholdlaw38.WalkPaths', WHERE WHAT IT READS IS OF BULK AT MOST 1048576: true; the input reads as it did. -/
def walkPathsUptoRow : OpenClaim := { program := "ytdhcmnbajkpjiaa", sum := "e89e0cbb17065372a1dee14ca35188ebf2a5fe6b2eeb3f29c2e8c7c019895b5b", func := "copyhold/copyholdlaw38.WalkPaths", spec := "walkPaths", unfollowed := true, recurses := true, apart := false, narrowed := true }
def WalkPathsUptoSaid : Prop := walkPathsUptoRow.holds Try.pinned (OpenSpec.upto walkPathsSpec)

/-- 'copyholdlaw40.RegionRoom', WHERE WHAT IT READS IS OF BULK AT MOST 1048576: true; the input reads as it did. -/
def regionRoomUptoRow : OpenClaim := { program := "ytdhcmnbajkpjiaa", sum := "e89e0cbb17065372a1dee14ca35188ebf2a5fe6b2eeb3f29c2e8c7c019895b5b", func := "copyhold/copyholdlaw40.RegionRoom", spec := "regionRoom", unfollowed := true, recurses := true, apart := false, narrowed := true }
def RegionRoomUptoSaid : Prop := regionRoomUptoRow.holds Try.pinned (OpenSpec.upto regionRoomSpec)

/-- 'copyholdlaw40.RegionStale', WHERE WHAT IT READS IS OF BULK AT MOST 1048576: true; the input reads as it did. -/
def regionStaleUptoRow : OpenClaim := { program := "ytdhcmnbajkpjiaa", sum := "e89e0cbb17065372a1dee14ca35188ebf2a5fe6b2eeb3f29c2e8c7c019895b5b", func := "copyhold/copyholdlaw40.RegionStale", spec := "regionStale", unfollowed := true, recurses := true, apart := false, narrowed := true }
def RegionStaleUptoSaid : Prop := regionStaleUptoRow.holds Try.pinned (OpenSpec.upto regionStaleSpec)

end Rows
end Go.Proofs.Ytdhcmnbajkpjiaa
