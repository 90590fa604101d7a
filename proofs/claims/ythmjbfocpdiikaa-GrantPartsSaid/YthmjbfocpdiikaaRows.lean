/-
  No cell of these rows narrows 'for every input' (looked for: loops, veiled, ifaces, maps, wideKeys, modest, calm, conditions, laid).
  DERIVED. THE GIVEN ROWS OF THIS SEAT. 13 by the template 'for every input the law returns true; each argument reads behind the call as it read before'; 0 by the template 'total and deterministic' (their statements: YthmjbfocpdiikaaTotals.lean).
  GIVEN WITH THE SEED: the statements are not yours to turn. If you find one false, say at which input.
  Laid BY PROGRAM, IN A SANDBOX (cutbox-rows.mjs): the forced cells as the released guide's own fill.sh prints them over the translation dc227976dfd2d0ea… (all of the seat's roots in one cut). By AI agents, Wed Nov 11 2026. No macro, syntax, notation, axiom, sorry.
-/
import Derived.Test.YthmjbfocpdiikaaChecked
import GoSem.Claim
import GoSem.ClaimJoined
import GoSem.ClaimMapViews
import Derived.JoinedTies
import Derived.KernelRfl
namespace Go.Proofs.Ythmjbfocpdiikaa
/- THE CELL 'sum', in the pinned program and in every row, IS THE sha256 OF THE DUMP (.gsa) THAT YthmjbfocpdiikaaProg.lean LOADS. Nothing in Lean hashes anything: it is a label: what it is worth is what the hold of that sum in a sandbox is worth. -/
noncomputable def Try.pinned : Pinned := { name := "ythmjbfocpdiikaa", sum := "dc227976dfd2d0ea9d33ed892459a277491bacb2e07a5c78011f36ab10393e54", checked := Try.checked }
namespace Rows
def none {H : Type} : Left H := { results := [], args := [] }

/-- 'copyholdlaw29.BankSafe': WHATEVER THE INPUT: true; the input reads as it did. -/
def bankSafeSpec : ChangeSpec := { name := "bankSafe", fn := fun _ => fun
  | [d1, d2, d3] => { results := [.lit (.bool true)], args := [d1, d2, d3] }
  | _ => none }
def bankSafeRow : OpenClaim := { program := "ythmjbfocpdiikaa", sum := "dc227976dfd2d0ea9d33ed892459a277491bacb2e07a5c78011f36ab10393e54", func := "copyhold/copyholdlaw29.BankSafe", spec := "bankSafe", unfollowed := true, recurses := true, apart := false }
def BankSafeSaid : Prop := bankSafeRow.holds Try.pinned (OpenSpec.ofChange bankSafeSpec)

/-- ITS FALSE NEIGHBOUR: 'it returns false'. Refute it at one input. -/
def bankSafeWrong : ChangeSpec := { name := "bankSafe", fn := fun _ => fun
  | [d1, d2, d3] => { results := [.lit (.bool false)], args := [d1, d2, d3] }
  | _ => none }
def BankSafeWrongFalsely : Prop := bankSafeRow.holds Try.pinned (OpenSpec.ofChange bankSafeWrong)

/-- 'copyholdlaw29.BankKeeps': WHATEVER THE INPUT: true; the input reads as it did. -/
def bankKeepsSpec : ChangeSpec := { name := "bankKeeps", fn := fun _ => fun
  | [d1, d2, d3] => { results := [.lit (.bool true)], args := [d1, d2, d3] }
  | _ => none }
def bankKeepsRow : OpenClaim := { program := "ythmjbfocpdiikaa", sum := "dc227976dfd2d0ea9d33ed892459a277491bacb2e07a5c78011f36ab10393e54", func := "copyhold/copyholdlaw29.BankKeeps", spec := "bankKeeps", unfollowed := true, recurses := true, apart := false }
def BankKeepsSaid : Prop := bankKeepsRow.holds Try.pinned (OpenSpec.ofChange bankKeepsSpec)

/-- ITS FALSE NEIGHBOUR: 'it returns false'. Refute it at one input. -/
def bankKeepsWrong : ChangeSpec := { name := "bankKeeps", fn := fun _ => fun
  | [d1, d2, d3] => { results := [.lit (.bool false)], args := [d1, d2, d3] }
  | _ => none }
def BankKeepsWrongFalsely : Prop := bankKeepsRow.holds Try.pinned (OpenSpec.ofChange bankKeepsWrong)

/-- 'copyholdlaw29.BankNew': WHATEVER THE INPUT: true; the input reads as it did. -/
def bankNewSpec : ChangeSpec := { name := "bankNew", fn := fun _ => fun
  | [d1, d2, d3] => { results := [.lit (.bool true)], args := [d1, d2, d3] }
  | _ => none }
def bankNewRow : OpenClaim := { program := "ythmjbfocpdiikaa", sum := "dc227976dfd2d0ea9d33ed892459a277491bacb2e07a5c78011f36ab10393e54", func := "copyhold/copyholdlaw29.BankNew", spec := "bankNew", unfollowed := true, recurses := true, apart := false }
def BankNewSaid : Prop := bankNewRow.holds Try.pinned (OpenSpec.ofChange bankNewSpec)

/-- ITS FALSE NEIGHBOUR: 'it returns false'. Refute it at one input. -/
def bankNewWrong : ChangeSpec := { name := "bankNew", fn := fun _ => fun
  | [d1, d2, d3] => { results := [.lit (.bool false)], args := [d1, d2, d3] }
  | _ => none }
def BankNewWrongFalsely : Prop := bankNewRow.holds Try.pinned (OpenSpec.ofChange bankNewWrong)

/-- 'copyholdlaw29.BankMay': WHATEVER THE INPUT: true; the input reads as it did. -/
def bankMaySpec : ChangeSpec := { name := "bankMay", fn := fun _ => fun
  | [d1, d2, d3] => { results := [.lit (.bool true)], args := [d1, d2, d3] }
  | _ => none }
def bankMayRow : OpenClaim := { program := "ythmjbfocpdiikaa", sum := "dc227976dfd2d0ea9d33ed892459a277491bacb2e07a5c78011f36ab10393e54", func := "copyhold/copyholdlaw29.BankMay", spec := "bankMay", unfollowed := true, recurses := true, apart := false }
def BankMaySaid : Prop := bankMayRow.holds Try.pinned (OpenSpec.ofChange bankMaySpec)

/-- ITS FALSE NEIGHBOUR: 'it returns false'. Refute it at one input. -/
def bankMayWrong : ChangeSpec := { name := "bankMay", fn := fun _ => fun
  | [d1, d2, d3] => { results := [.lit (.bool false)], args := [d1, d2, d3] }
  | _ => none }
def BankMayWrongFalsely : Prop := bankMayRow.holds Try.pinned (OpenSpec.ofChange bankMayWrong)

/-- 'copyholdlaw34.SkipTells': WHATEVER THE INPUT: true; the input reads as it did. -/
def skipTellsSpec : ChangeSpec := { name := "skipTells", fn := fun _ => fun
  | [d1, d2] => { results := [.lit (.bool true)], args := [d1, d2] }
  | _ => none }
def skipTellsRow : OpenClaim := { program := "ythmjbfocpdiikaa", sum := "dc227976dfd2d0ea9d33ed892459a277491bacb2e07a5c78011f36ab10393e54", func := "copyhold/copyholdlaw34.SkipTells", spec := "skipTells", unfollowed := true, recurses := true, apart := false }
def SkipTellsSaid : Prop := skipTellsRow.holds Try.pinned (OpenSpec.ofChange skipTellsSpec)

/-- ITS FALSE NEIGHBOUR: 'it returns false'. Refute it at one input. -/
def skipTellsWrong : ChangeSpec := { name := "skipTells", fn := fun _ => fun
  | [d1, d2] => { results := [.lit (.bool false)], args := [d1, d2] }
  | _ => none }
def SkipTellsWrongFalsely : Prop := skipTellsRow.holds Try.pinned (OpenSpec.ofChange skipTellsWrong)

/-- 'copyholdlaw34.SkipOlder': WHATEVER THE INPUT: true; the input reads as it did. -/
def skipOlderSpec : ChangeSpec := { name := "skipOlder", fn := fun _ => fun
  | [d] => { results := [.lit (.bool true)], args := [d] }
  | _ => none }
def skipOlderRow : OpenClaim := { program := "ythmjbfocpdiikaa", sum := "dc227976dfd2d0ea9d33ed892459a277491bacb2e07a5c78011f36ab10393e54", func := "copyhold/copyholdlaw34.SkipOlder", spec := "skipOlder", unfollowed := true, recurses := true, apart := false }
def SkipOlderSaid : Prop := skipOlderRow.holds Try.pinned (OpenSpec.ofChange skipOlderSpec)

/-- ITS FALSE NEIGHBOUR: 'it returns false'. Refute it at one input. -/
def skipOlderWrong : ChangeSpec := { name := "skipOlder", fn := fun _ => fun
  | [d] => { results := [.lit (.bool false)], args := [d] }
  | _ => none }
def SkipOlderWrongFalsely : Prop := skipOlderRow.holds Try.pinned (OpenSpec.ofChange skipOlderWrong)

/-- 'copyholdlaw34.SkipSome': WHATEVER THE INPUT: true; the input reads as it did. -/
def skipSomeSpec : ChangeSpec := { name := "skipSome", fn := fun _ => fun
  | [d] => { results := [.lit (.bool true)], args := [d] }
  | _ => none }
def skipSomeRow : OpenClaim := { program := "ythmjbfocpdiikaa", sum := "dc227976dfd2d0ea9d33ed892459a277491bacb2e07a5c78011f36ab10393e54", func := "copyhold/copyholdlaw34.SkipSome", spec := "skipSome", unfollowed := true, recurses := true, apart := false }
def SkipSomeSaid : Prop := skipSomeRow.holds Try.pinned (OpenSpec.ofChange skipSomeSpec)

/-- ITS FALSE NEIGHBOUR: 'it returns false'. Refute it at one input. -/
def skipSomeWrong : ChangeSpec := { name := "skipSome", fn := fun _ => fun
  | [d] => { results := [.lit (.bool false)], args := [d] }
  | _ => none }
def SkipSomeWrongFalsely : Prop := skipSomeRow.holds Try.pinned (OpenSpec.ofChange skipSomeWrong)

/-- 'copyholdlaw35.GrantWhole': WHATEVER THE INPUT: true; the input reads as it did. -/
def grantWholeSpec : ChangeSpec := { name := "grantWhole", fn := fun _ => fun
  | [d] => { results := [.lit (.bool true)], args := [d] }
  | _ => none }
def grantWholeRow : OpenClaim := { program := "ythmjbfocpdiikaa", sum := "dc227976dfd2d0ea9d33ed892459a277491bacb2e07a5c78011f36ab10393e54", func := "copyhold/copyholdlaw35.GrantWhole", spec := "grantWhole", unfollowed := true, recurses := true, apart := false }
def GrantWholeSaid : Prop := grantWholeRow.holds Try.pinned (OpenSpec.ofChange grantWholeSpec)

/-- ITS FALSE NEIGHBOUR: 'it returns false'. Refute it at one input. -/
def grantWholeWrong : ChangeSpec := { name := "grantWhole", fn := fun _ => fun
  | [d] => { results := [.lit (.bool false)], args := [d] }
  | _ => none }
def GrantWholeWrongFalsely : Prop := grantWholeRow.holds Try.pinned (OpenSpec.ofChange grantWholeWrong)

/-- 'copyholdlaw35.GrantParts': WHATEVER THE INPUT: true; the input reads as it did. -/
def grantPartsSpec : ChangeSpec := { name := "grantParts", fn := fun _ => fun
  | [d] => { results := [.lit (.bool true)], args := [d] }
  | _ => none }
def grantPartsRow : OpenClaim := { program := "ythmjbfocpdiikaa", sum := "dc227976dfd2d0ea9d33ed892459a277491bacb2e07a5c78011f36ab10393e54", func := "copyhold/copyholdlaw35.GrantParts", spec := "grantParts", unfollowed := true, recurses := true, apart := false }
def GrantPartsSaid : Prop := grantPartsRow.holds Try.pinned (OpenSpec.ofChange grantPartsSpec)

/-- ITS FALSE NEIGHBOUR: 'it returns false'. Refute it at one input. -/
def grantPartsWrong : ChangeSpec := { name := "grantParts", fn := fun _ => fun
  | [d] => { results := [.lit (.bool false)], args := [d] }
  | _ => none }
def GrantPartsWrongFalsely : Prop := grantPartsRow.holds Try.pinned (OpenSpec.ofChange grantPartsWrong)

/-- 'copyholdlaw28.OrderMore': WHATEVER THE INPUT: true; the input reads as it did. -/
def orderMoreSpec : ChangeSpec := { name := "orderMore", fn := fun _ => fun
  | [d1, d2, d3] => { results := [.lit (.bool true)], args := [d1, d2, d3] }
  | _ => none }
def orderMoreRow : OpenClaim := { program := "ythmjbfocpdiikaa", sum := "dc227976dfd2d0ea9d33ed892459a277491bacb2e07a5c78011f36ab10393e54", func := "copyhold/copyholdlaw28.OrderMore", spec := "orderMore", unfollowed := true, recurses := true, apart := false }
def OrderMoreSaid : Prop := orderMoreRow.holds Try.pinned (OpenSpec.ofChange orderMoreSpec)

/-- ITS FALSE NEIGHBOUR: 'it returns false'. Refute it at one input. -/
def orderMoreWrong : ChangeSpec := { name := "orderMore", fn := fun _ => fun
  | [d1, d2, d3] => { results := [.lit (.bool false)], args := [d1, d2, d3] }
  | _ => none }
def OrderMoreWrongFalsely : Prop := orderMoreRow.holds Try.pinned (OpenSpec.ofChange orderMoreWrong)

/-- 'copyholdlaw28.OrderTells': WHATEVER THE INPUT: true; the input reads as it did. -/
def orderTellsSpec : ChangeSpec := { name := "orderTells", fn := fun _ => fun
  | [d1, d2, d3] => { results := [.lit (.bool true)], args := [d1, d2, d3] }
  | _ => none }
def orderTellsRow : OpenClaim := { program := "ythmjbfocpdiikaa", sum := "dc227976dfd2d0ea9d33ed892459a277491bacb2e07a5c78011f36ab10393e54", func := "copyhold/copyholdlaw28.OrderTells", spec := "orderTells", unfollowed := true, recurses := true, apart := false }
def OrderTellsSaid : Prop := orderTellsRow.holds Try.pinned (OpenSpec.ofChange orderTellsSpec)

/-- ITS FALSE NEIGHBOUR: 'it returns false'. Refute it at one input. -/
def orderTellsWrong : ChangeSpec := { name := "orderTells", fn := fun _ => fun
  | [d1, d2, d3] => { results := [.lit (.bool false)], args := [d1, d2, d3] }
  | _ => none }
def OrderTellsWrongFalsely : Prop := orderTellsRow.holds Try.pinned (OpenSpec.ofChange orderTellsWrong)

/-- 'copyholdlaw28.OrderAny': WHATEVER THE INPUT: true; the input reads as it did. -/
def orderAnySpec : ChangeSpec := { name := "orderAny", fn := fun _ => fun
  | [d1, d2] => { results := [.lit (.bool true)], args := [d1, d2] }
  | _ => none }
def orderAnyRow : OpenClaim := { program := "ythmjbfocpdiikaa", sum := "dc227976dfd2d0ea9d33ed892459a277491bacb2e07a5c78011f36ab10393e54", func := "copyhold/copyholdlaw28.OrderAny", spec := "orderAny", unfollowed := true, recurses := true, apart := false }
def OrderAnySaid : Prop := orderAnyRow.holds Try.pinned (OpenSpec.ofChange orderAnySpec)

/-- ITS FALSE NEIGHBOUR: 'it returns false'. Refute it at one input. -/
def orderAnyWrong : ChangeSpec := { name := "orderAny", fn := fun _ => fun
  | [d1, d2] => { results := [.lit (.bool false)], args := [d1, d2] }
  | _ => none }
def OrderAnyWrongFalsely : Prop := orderAnyRow.holds Try.pinned (OpenSpec.ofChange orderAnyWrong)

/-- 'copyholdlaw28.OrderSpare': WHATEVER THE INPUT: true; the input reads as it did. -/
def orderSpareSpec : ChangeSpec := { name := "orderSpare", fn := fun _ => fun
  | [d1, d2] => { results := [.lit (.bool true)], args := [d1, d2] }
  | _ => none }
def orderSpareRow : OpenClaim := { program := "ythmjbfocpdiikaa", sum := "dc227976dfd2d0ea9d33ed892459a277491bacb2e07a5c78011f36ab10393e54", func := "copyhold/copyholdlaw28.OrderSpare", spec := "orderSpare", unfollowed := true, recurses := true, apart := false }
def OrderSpareSaid : Prop := orderSpareRow.holds Try.pinned (OpenSpec.ofChange orderSpareSpec)

/-- ITS FALSE NEIGHBOUR: 'it returns false'. Refute it at one input. -/
def orderSpareWrong : ChangeSpec := { name := "orderSpare", fn := fun _ => fun
  | [d1, d2] => { results := [.lit (.bool false)], args := [d1, d2] }
  | _ => none }
def OrderSpareWrongFalsely : Prop := orderSpareRow.holds Try.pinned (OpenSpec.ofChange orderSpareWrong)

/- THE SECOND FORM. 'bulk': how many values and letters a reading holds, each counted each time it is reached (what is shared counts as often as it is met; a slice's spare places count too). A statement '..UptoSaid' is the law's where the arguments, and the package variables that the reading takes, are together of bulk at most 1048576: NARROWER than '..Said'. Prove '..Said' where nothing that the law and all that it calls make is longer than what came in: it says more and counts as full. Else prove '..UptoSaid'. A law counts once. -/
mutual
def uptoBulk {H : Type} : DataW H → Nat
  | .lit (.string bytes) => bytes.length + 1
  | .lit _ => 1
  | .nil => 1
  | .ptr d => uptoBulk d + 1
  | .slice elems spare => uptoBulkAll elems + uptoBulkAll spare + 1
  | .agg parts => uptoBulkAll parts + 1
  | .iface _ d => uptoBulk d + 1
  | .map entries => uptoBulkEntries entries + 1
  | .held _ => 1
def uptoBulkAll {H : Type} : List (DataW H) → Nat
  | [] => 0
  | d :: r => uptoBulk d + uptoBulkAll r
def uptoBulkEntries {H : Type} : List (Lit × DataW H) → Nat
  | [] => 0
  | x :: r => uptoBulkEntry x + uptoBulkEntries r
def uptoBulkEntry {H : Type} : Lit × DataW H → Nat
  | (.string bytes, d) => bytes.length + uptoBulk d + 1
  | (_, d) => uptoBulk d + 1
 end
def uptoSmall : (H : Type) → List (DataW H) → Bool := fun _ ds => decide (uptoBulkAll ds ≤ 1048576)
def OpenSpec.upto (s : _root_.Go.ChangeSpec) : _root_.Go.OpenSpec := { _root_.Go.OpenSpec.ofChange s with cond := some uptoSmall }

/-- 'copyholdlaw29.BankSafe', WHERE WHAT IT READS IS OF BULK AT MOST 1048576: true; the input reads as it did. -/
def bankSafeUptoRow : OpenClaim := { program := "ythmjbfocpdiikaa", sum := "dc227976dfd2d0ea9d33ed892459a277491bacb2e07a5c78011f36ab10393e54", func := "copyhold/copyholdlaw29.BankSafe", spec := "bankSafe", unfollowed := true, recurses := true, apart := false, narrowed := true }
def BankSafeUptoSaid : Prop := bankSafeUptoRow.holds Try.pinned (OpenSpec.upto bankSafeSpec)

/-- 'copyholdlaw29.BankKeeps', WHERE WHAT IT READS IS OF BULK AT MOST 1048576: true; the input reads as it did. -/
def bankKeepsUptoRow : OpenClaim := { program := "ythmjbfocpdiikaa", sum := "dc227976dfd2d0ea9d33ed892459a277491bacb2e07a5c78011f36ab10393e54", func := "copyhold/copyholdlaw29.BankKeeps", spec := "bankKeeps", unfollowed := true, recurses := true, apart := false, narrowed := true }
def BankKeepsUptoSaid : Prop := bankKeepsUptoRow.holds Try.pinned (OpenSpec.upto bankKeepsSpec)

/-- 'copyholdlaw29.BankNew', WHERE WHAT IT READS IS OF BULK AT MOST 1048576: true; the input reads as it did. -/
def bankNewUptoRow : OpenClaim := { program := "ythmjbfocpdiikaa", sum := "dc227976dfd2d0ea9d33ed892459a277491bacb2e07a5c78011f36ab10393e54", func := "copyhold/copyholdlaw29.BankNew", spec := "bankNew", unfollowed := true, recurses := true, apart := false, narrowed := true }
def BankNewUptoSaid : Prop := bankNewUptoRow.holds Try.pinned (OpenSpec.upto bankNewSpec)

/-- 'copyholdlaw29.BankMay', WHERE WHAT IT READS IS OF BULK AT MOST 1048576: true; the input reads as it did. -/
def bankMayUptoRow : OpenClaim := { program := "ythmjbfocpdiikaa", sum := "dc227976dfd2d0ea9d33ed892459a277491bacb2e07a5c78011f36ab10393e54", func := "copyhold/copyholdlaw29.BankMay", spec := "bankMay", unfollowed := true, recurses := true, apart := false, narrowed := true }
def BankMayUptoSaid : Prop := bankMayUptoRow.holds Try.pinned (OpenSpec.upto bankMaySpec)

/-- 'copyholdlaw34.SkipTells', WHERE WHAT IT READS IS OF BULK AT MOST 1048576: true; the input reads as it did. -/
def skipTellsUptoRow : OpenClaim := { program := "ythmjbfocpdiikaa", sum := "dc227976dfd2d0ea9d33ed892459a277491bacb2e07a5c78011f36ab10393e54", func := "copyhold/copyholdlaw34.SkipTells", spec := "skipTells", unfollowed := true, recurses := true, apart := false, narrowed := true }
def SkipTellsUptoSaid : Prop := skipTellsUptoRow.holds Try.pinned (OpenSpec.upto skipTellsSpec)

/-- 'copyholdlaw34.SkipOlder', WHERE WHAT IT READS IS OF BULK AT MOST 1048576: true; the input reads as it did. -/
def skipOlderUptoRow : OpenClaim := { program := "ythmjbfocpdiikaa", sum := "dc227976dfd2d0ea9d33ed892459a277491bacb2e07a5c78011f36ab10393e54", func := "copyhold/copyholdlaw34.SkipOlder", spec := "skipOlder", unfollowed := true, recurses := true, apart := false, narrowed := true }
def SkipOlderUptoSaid : Prop := skipOlderUptoRow.holds Try.pinned (OpenSpec.upto skipOlderSpec)

/-- 'copyholdlaw34.SkipSome', WHERE WHAT IT READS IS OF BULK AT MOST 1048576: true; the input reads as it did. -/
def skipSomeUptoRow : OpenClaim := { program := "ythmjbfocpdiikaa", sum := "dc227976dfd2d0ea9d33ed892459a277491bacb2e07a5c78011f36ab10393e54", func := "copyhold/copyholdlaw34.SkipSome", spec := "skipSome", unfollowed := true, recurses := true, apart := false, narrowed := true }
def SkipSomeUptoSaid : Prop := skipSomeUptoRow.holds Try.pinned (OpenSpec.upto skipSomeSpec)

/-- 'copyholdlaw35.GrantWhole', WHERE WHAT IT READS IS OF BULK AT MOST 1048576: true; the input reads as it did. -/
def grantWholeUptoRow : OpenClaim := { program := "ythmjbfocpdiikaa", sum := "dc227976dfd2d0ea9d33ed892459a277491bacb2e07a5c78011f36ab10393e54", func := "copyhold/copyholdlaw35.GrantWhole", spec := "grantWhole", unfollowed := true, recurses := true, apart := false, narrowed := true }
def GrantWholeUptoSaid : Prop := grantWholeUptoRow.holds Try.pinned (OpenSpec.upto grantWholeSpec)

/-- 'copyholdlaw35.GrantParts', WHERE WHAT IT READS IS OF BULK AT MOST 1048576: true; the input reads as it did. -/
def grantPartsUptoRow : OpenClaim := { program := "ythmjbfocpdiikaa", sum := "dc227976dfd2d0ea9d33ed892459a277491bacb2e07a5c78011f36ab10393e54", func := "copyhold/copyholdlaw35.GrantParts", spec := "grantParts", unfollowed := true, recurses := true, apart := false, narrowed := true }
def GrantPartsUptoSaid : Prop := grantPartsUptoRow.holds Try.pinned (OpenSpec.upto grantPartsSpec)

/-- 'copyholdlaw28.OrderMore', WHERE WHAT IT READS IS OF BULK AT MOST 1048576: true; the input reads as it did. -/
def orderMoreUptoRow : OpenClaim := { program := "ythmjbfocpdiikaa", sum := "dc227976dfd2d0ea9d33ed892459a277491bacb2e07a5c78011f36ab10393e54", func := "copyhold/copyholdlaw28.OrderMore", spec := "orderMore", unfollowed := true, recurses := true, apart := false, narrowed := true }
def OrderMoreUptoSaid : Prop := orderMoreUptoRow.holds Try.pinned (OpenSpec.upto orderMoreSpec)

/-- 'copyholdlaw28.OrderTells', WHERE WHAT IT READS IS OF BULK AT MOST 1048576: true; the input reads as it did. -/
def orderTellsUptoRow : OpenClaim := { program := "ythmjbfocpdiikaa", sum := "dc227976dfd2d0ea9d33ed892459a277491bacb2e07a5c78011f36ab10393e54", func := "copyhold/copyholdlaw28.OrderTells", spec := "orderTells", unfollowed := true, recurses := true, apart := false, narrowed := true }
def OrderTellsUptoSaid : Prop := orderTellsUptoRow.holds Try.pinned (OpenSpec.upto orderTellsSpec)

/-- 'copyholdlaw28.OrderAny', WHERE WHAT IT READS IS OF BULK AT MOST 1048576: true; the input reads as it did. -/
def orderAnyUptoRow : OpenClaim := { program := "ythmjbfocpdiikaa", sum := "dc227976dfd2d0ea9d33ed892459a277491bacb2e07a5c78011f36ab10393e54", func := "copyhold/copyholdlaw28.OrderAny", spec := "orderAny", unfollowed := true, recurses := true, apart := false, narrowed := true }
def OrderAnyUptoSaid : Prop := orderAnyUptoRow.holds Try.pinned (OpenSpec.upto orderAnySpec)

/-- 'copyholdlaw28.OrderSpare', WHERE WHAT IT READS IS OF BULK AT MOST 1048576: true; the input reads as it did. -/
def orderSpareUptoRow : OpenClaim := { program := "ythmjbfocpdiikaa", sum := "dc227976dfd2d0ea9d33ed892459a277491bacb2e07a5c78011f36ab10393e54", func := "copyhold/copyholdlaw28.OrderSpare", spec := "orderSpare", unfollowed := true, recurses := true, apart := false, narrowed := true }
def OrderSpareUptoSaid : Prop := orderSpareUptoRow.holds Try.pinned (OpenSpec.upto orderSpareSpec)

end Rows
end Go.Proofs.Ythmjbfocpdiikaa
