/-
  No cell of these rows narrows 'for every input' (looked for: loops, veiled, ifaces, maps, wideKeys, modest, calm, conditions, laid).
  DERIVED. THE GIVEN ROWS OF THIS SEAT. 13 by the template 'for every input the law returns true; each argument reads behind the call as it read before'; 0 by the template 'total and deterministic' (their statements: YtfgfnfjeopjbgaaTotals.lean).
  GIVEN WITH THE SEED: the statements are not yours to turn. If you find one false, say at which input.
  Laid BY PROGRAM, IN A SANDBOX (cutbox-rows.mjs): the forced cells as the released guide's own fill.sh prints them over the translation 42d580fb364f9719… (all of the seat's roots in one cut). By AI agents, Wed Nov 11 2026. No macro, syntax, notation, axiom, sorry.
-/
import Derived.Test.YtfgfnfjeopjbgaaChecked
import GoSem.Claim
import GoSem.ClaimJoined
import GoSem.ClaimMapViews
import Derived.JoinedTies
import Derived.KernelRfl
namespace Go.Proofs.Ytfgfnfjeopjbgaa
/- THE CELL 'sum', in the pinned program and in every row, IS THE sha256 OF THE DUMP (.gsa) THAT YtfgfnfjeopjbgaaProg.lean LOADS. Nothing in Lean hashes anything: it is a label: what it is worth is what the hold of that sum in a sandbox is worth. -/
noncomputable def Try.pinned : Pinned := { name := "ytfgfnfjeopjbgaa", sum := "42d580fb364f97193e32b841ddd540f071debb9c4ff75f8262aa2fdd0d15dd86", checked := Try.checked }
namespace Rows
def none {H : Type} : Left H := { results := [], args := [] }

/-- 'copyholdlaw47.BoundMore': WHATEVER THE INPUT: true; the input reads as it did. -/
def boundMoreSpec : ChangeSpec := { name := "boundMore", fn := fun _ => fun
  | [d1, d2] => { results := [.lit (.bool true)], args := [d1, d2] }
  | _ => none }
def boundMoreRow : OpenClaim := { program := "ytfgfnfjeopjbgaa", sum := "42d580fb364f97193e32b841ddd540f071debb9c4ff75f8262aa2fdd0d15dd86", func := "copyhold/copyholdlaw47.BoundMore", spec := "boundMore", unfollowed := true, recurses := true, apart := false }
def BoundMoreSaid : Prop := boundMoreRow.holds Try.pinned (OpenSpec.ofChange boundMoreSpec)

/-- ITS FALSE NEIGHBOUR: 'it returns false'. Refute it at one input. -/
def boundMoreWrong : ChangeSpec := { name := "boundMore", fn := fun _ => fun
  | [d1, d2] => { results := [.lit (.bool false)], args := [d1, d2] }
  | _ => none }
def BoundMoreWrongFalsely : Prop := boundMoreRow.holds Try.pinned (OpenSpec.ofChange boundMoreWrong)

/-- 'copyholdlaw47.BoundParts': WHATEVER THE INPUT: true; the input reads as it did. -/
def boundPartsSpec : ChangeSpec := { name := "boundParts", fn := fun _ => fun
  | [d] => { results := [.lit (.bool true)], args := [d] }
  | _ => none }
def boundPartsRow : OpenClaim := { program := "ytfgfnfjeopjbgaa", sum := "42d580fb364f97193e32b841ddd540f071debb9c4ff75f8262aa2fdd0d15dd86", func := "copyhold/copyholdlaw47.BoundParts", spec := "boundParts", unfollowed := true, recurses := true, apart := false }
def BoundPartsSaid : Prop := boundPartsRow.holds Try.pinned (OpenSpec.ofChange boundPartsSpec)

/-- ITS FALSE NEIGHBOUR: 'it returns false'. Refute it at one input. -/
def boundPartsWrong : ChangeSpec := { name := "boundParts", fn := fun _ => fun
  | [d] => { results := [.lit (.bool false)], args := [d] }
  | _ => none }
def BoundPartsWrongFalsely : Prop := boundPartsRow.holds Try.pinned (OpenSpec.ofChange boundPartsWrong)

/-- 'copyholdlaw08.SpansFinds': WHATEVER THE INPUT: true; the input reads as it did. -/
def spansFindsSpec : ChangeSpec := { name := "spansFinds", fn := fun _ => fun
  | [d1, d2, d3] => { results := [.lit (.bool true)], args := [d1, d2, d3] }
  | _ => none }
def spansFindsRow : OpenClaim := { program := "ytfgfnfjeopjbgaa", sum := "42d580fb364f97193e32b841ddd540f071debb9c4ff75f8262aa2fdd0d15dd86", func := "copyhold/copyholdlaw08.SpansFinds", spec := "spansFinds", unfollowed := true, recurses := true, apart := false }
def SpansFindsSaid : Prop := spansFindsRow.holds Try.pinned (OpenSpec.ofChange spansFindsSpec)

/-- ITS FALSE NEIGHBOUR: 'it returns false'. Refute it at one input. -/
def spansFindsWrong : ChangeSpec := { name := "spansFinds", fn := fun _ => fun
  | [d1, d2, d3] => { results := [.lit (.bool false)], args := [d1, d2, d3] }
  | _ => none }
def SpansFindsWrongFalsely : Prop := spansFindsRow.holds Try.pinned (OpenSpec.ofChange spansFindsWrong)

/-- 'copyholdlaw08.SpansJoins': WHATEVER THE INPUT: true; the input reads as it did. -/
def spansJoinsSpec : ChangeSpec := { name := "spansJoins", fn := fun _ => fun
  | [d1, d2, d3] => { results := [.lit (.bool true)], args := [d1, d2, d3] }
  | _ => none }
def spansJoinsRow : OpenClaim := { program := "ytfgfnfjeopjbgaa", sum := "42d580fb364f97193e32b841ddd540f071debb9c4ff75f8262aa2fdd0d15dd86", func := "copyhold/copyholdlaw08.SpansJoins", spec := "spansJoins", unfollowed := true, recurses := true, apart := false }
def SpansJoinsSaid : Prop := spansJoinsRow.holds Try.pinned (OpenSpec.ofChange spansJoinsSpec)

/-- ITS FALSE NEIGHBOUR: 'it returns false'. Refute it at one input. -/
def spansJoinsWrong : ChangeSpec := { name := "spansJoins", fn := fun _ => fun
  | [d1, d2, d3] => { results := [.lit (.bool false)], args := [d1, d2, d3] }
  | _ => none }
def SpansJoinsWrongFalsely : Prop := spansJoinsRow.holds Try.pinned (OpenSpec.ofChange spansJoinsWrong)

/-- 'copyholdlaw08.SpansBack': WHATEVER THE INPUT: true; the input reads as it did. -/
def spansBackSpec : ChangeSpec := { name := "spansBack", fn := fun _ => fun
  | [d1, d2, d3] => { results := [.lit (.bool true)], args := [d1, d2, d3] }
  | _ => none }
def spansBackRow : OpenClaim := { program := "ytfgfnfjeopjbgaa", sum := "42d580fb364f97193e32b841ddd540f071debb9c4ff75f8262aa2fdd0d15dd86", func := "copyhold/copyholdlaw08.SpansBack", spec := "spansBack", unfollowed := true, recurses := true, apart := false }
def SpansBackSaid : Prop := spansBackRow.holds Try.pinned (OpenSpec.ofChange spansBackSpec)

/-- ITS FALSE NEIGHBOUR: 'it returns false'. Refute it at one input. -/
def spansBackWrong : ChangeSpec := { name := "spansBack", fn := fun _ => fun
  | [d1, d2, d3] => { results := [.lit (.bool false)], args := [d1, d2, d3] }
  | _ => none }
def SpansBackWrongFalsely : Prop := spansBackRow.holds Try.pinned (OpenSpec.ofChange spansBackWrong)

/-- 'copyholdlaw01.NumParts': WHATEVER THE INPUT: true; the input reads as it did. -/
def numPartsSpec : ChangeSpec := { name := "numParts", fn := fun _ => fun
  | [d1, d2] => { results := [.lit (.bool true)], args := [d1, d2] }
  | _ => none }
def numPartsRow : OpenClaim := { program := "ytfgfnfjeopjbgaa", sum := "42d580fb364f97193e32b841ddd540f071debb9c4ff75f8262aa2fdd0d15dd86", func := "copyhold/copyholdlaw01.NumParts", spec := "numParts", apart := false }
def NumPartsSaid : Prop := numPartsRow.holds Try.pinned (OpenSpec.ofChange numPartsSpec)

/-- ITS FALSE NEIGHBOUR: 'it returns false'. Refute it at one input. -/
def numPartsWrong : ChangeSpec := { name := "numParts", fn := fun _ => fun
  | [d1, d2] => { results := [.lit (.bool false)], args := [d1, d2] }
  | _ => none }
def NumPartsWrongFalsely : Prop := numPartsRow.holds Try.pinned (OpenSpec.ofChange numPartsWrong)

/-- 'copyholdlaw01.NumAligns': WHATEVER THE INPUT: true; the input reads as it did. -/
def numAlignsSpec : ChangeSpec := { name := "numAligns", fn := fun _ => fun
  | [d1, d2] => { results := [.lit (.bool true)], args := [d1, d2] }
  | _ => none }
def numAlignsRow : OpenClaim := { program := "ytfgfnfjeopjbgaa", sum := "42d580fb364f97193e32b841ddd540f071debb9c4ff75f8262aa2fdd0d15dd86", func := "copyhold/copyholdlaw01.NumAligns", spec := "numAligns", apart := false }
def NumAlignsSaid : Prop := numAlignsRow.holds Try.pinned (OpenSpec.ofChange numAlignsSpec)

/-- ITS FALSE NEIGHBOUR: 'it returns false'. Refute it at one input. -/
def numAlignsWrong : ChangeSpec := { name := "numAligns", fn := fun _ => fun
  | [d1, d2] => { results := [.lit (.bool false)], args := [d1, d2] }
  | _ => none }
def NumAlignsWrongFalsely : Prop := numAlignsRow.holds Try.pinned (OpenSpec.ofChange numAlignsWrong)

/-- 'copyholdlaw39.PageRow': WHATEVER THE INPUT: true; the input reads as it did. -/
def pageRowSpec : ChangeSpec := { name := "pageRow", fn := fun _ => fun
  | [d] => { results := [.lit (.bool true)], args := [d] }
  | _ => none }
def pageRowRow : OpenClaim := { program := "ytfgfnfjeopjbgaa", sum := "42d580fb364f97193e32b841ddd540f071debb9c4ff75f8262aa2fdd0d15dd86", func := "copyhold/copyholdlaw39.PageRow", spec := "pageRow", apart := false }
def PageRowSaid : Prop := pageRowRow.holds Try.pinned (OpenSpec.ofChange pageRowSpec)

/-- ITS FALSE NEIGHBOUR: 'it returns false'. Refute it at one input. -/
def pageRowWrong : ChangeSpec := { name := "pageRow", fn := fun _ => fun
  | [d] => { results := [.lit (.bool false)], args := [d] }
  | _ => none }
def PageRowWrongFalsely : Prop := pageRowRow.holds Try.pinned (OpenSpec.ofChange pageRowWrong)

/-- 'copyholdlaw01.NumSums': WHATEVER THE INPUT: true; the input reads as it did. -/
def numSumsSpec : ChangeSpec := { name := "numSums", fn := fun _ => fun
  | [d1, d2] => { results := [.lit (.bool true)], args := [d1, d2] }
  | _ => none }
def numSumsRow : OpenClaim := { program := "ytfgfnfjeopjbgaa", sum := "42d580fb364f97193e32b841ddd540f071debb9c4ff75f8262aa2fdd0d15dd86", func := "copyhold/copyholdlaw01.NumSums", spec := "numSums", apart := false }
def NumSumsSaid : Prop := numSumsRow.holds Try.pinned (OpenSpec.ofChange numSumsSpec)

/-- ITS FALSE NEIGHBOUR: 'it returns false'. Refute it at one input. -/
def numSumsWrong : ChangeSpec := { name := "numSums", fn := fun _ => fun
  | [d1, d2] => { results := [.lit (.bool false)], args := [d1, d2] }
  | _ => none }
def NumSumsWrongFalsely : Prop := numSumsRow.holds Try.pinned (OpenSpec.ofChange numSumsWrong)

/-- 'copyholdlaw01.NumBack': WHATEVER THE INPUT: true; the input reads as it did. -/
def numBackSpec : ChangeSpec := { name := "numBack", fn := fun _ => fun
  | [d1, d2] => { results := [.lit (.bool true)], args := [d1, d2] }
  | _ => none }
def numBackRow : OpenClaim := { program := "ytfgfnfjeopjbgaa", sum := "42d580fb364f97193e32b841ddd540f071debb9c4ff75f8262aa2fdd0d15dd86", func := "copyhold/copyholdlaw01.NumBack", spec := "numBack", apart := false }
def NumBackSaid : Prop := numBackRow.holds Try.pinned (OpenSpec.ofChange numBackSpec)

/-- ITS FALSE NEIGHBOUR: 'it returns false'. Refute it at one input. -/
def numBackWrong : ChangeSpec := { name := "numBack", fn := fun _ => fun
  | [d1, d2] => { results := [.lit (.bool false)], args := [d1, d2] }
  | _ => none }
def NumBackWrongFalsely : Prop := numBackRow.holds Try.pinned (OpenSpec.ofChange numBackWrong)

/-- 'copyholdlaw39.PageLays': WHATEVER THE INPUT: true; the input reads as it did. -/
def pageLaysSpec : ChangeSpec := { name := "pageLays", fn := fun _ => fun
  | [d1, d2, d3] => { results := [.lit (.bool true)], args := [d1, d2, d3] }
  | _ => none }
def pageLaysRow : OpenClaim := { program := "ytfgfnfjeopjbgaa", sum := "42d580fb364f97193e32b841ddd540f071debb9c4ff75f8262aa2fdd0d15dd86", func := "copyhold/copyholdlaw39.PageLays", spec := "pageLays", apart := false }
def PageLaysSaid : Prop := pageLaysRow.holds Try.pinned (OpenSpec.ofChange pageLaysSpec)

/-- ITS FALSE NEIGHBOUR: 'it returns false'. Refute it at one input. -/
def pageLaysWrong : ChangeSpec := { name := "pageLays", fn := fun _ => fun
  | [d1, d2, d3] => { results := [.lit (.bool false)], args := [d1, d2, d3] }
  | _ => none }
def PageLaysWrongFalsely : Prop := pageLaysRow.holds Try.pinned (OpenSpec.ofChange pageLaysWrong)

/-- 'copyholdlaw08.SpansCuts': WHATEVER THE INPUT: true; the input reads as it did. -/
def spansCutsSpec : ChangeSpec := { name := "spansCuts", fn := fun _ => fun
  | [d1, d2, d3] => { results := [.lit (.bool true)], args := [d1, d2, d3] }
  | _ => none }
def spansCutsRow : OpenClaim := { program := "ytfgfnfjeopjbgaa", sum := "42d580fb364f97193e32b841ddd540f071debb9c4ff75f8262aa2fdd0d15dd86", func := "copyhold/copyholdlaw08.SpansCuts", spec := "spansCuts", unfollowed := true, recurses := true, apart := false }
def SpansCutsSaid : Prop := spansCutsRow.holds Try.pinned (OpenSpec.ofChange spansCutsSpec)

/-- ITS FALSE NEIGHBOUR: 'it returns false'. Refute it at one input. -/
def spansCutsWrong : ChangeSpec := { name := "spansCuts", fn := fun _ => fun
  | [d1, d2, d3] => { results := [.lit (.bool false)], args := [d1, d2, d3] }
  | _ => none }
def SpansCutsWrongFalsely : Prop := spansCutsRow.holds Try.pinned (OpenSpec.ofChange spansCutsWrong)

/-- 'copyholdlaw08.SpansWhole': WHATEVER THE INPUT: true; the input reads as it did. -/
def spansWholeSpec : ChangeSpec := { name := "spansWhole", fn := fun _ => fun
  | [d1, d2] => { results := [.lit (.bool true)], args := [d1, d2] }
  | _ => none }
def spansWholeRow : OpenClaim := { program := "ytfgfnfjeopjbgaa", sum := "42d580fb364f97193e32b841ddd540f071debb9c4ff75f8262aa2fdd0d15dd86", func := "copyhold/copyholdlaw08.SpansWhole", spec := "spansWhole", unfollowed := true, recurses := true, apart := false }
def SpansWholeSaid : Prop := spansWholeRow.holds Try.pinned (OpenSpec.ofChange spansWholeSpec)

/-- ITS FALSE NEIGHBOUR: 'it returns false'. Refute it at one input. -/
def spansWholeWrong : ChangeSpec := { name := "spansWhole", fn := fun _ => fun
  | [d1, d2] => { results := [.lit (.bool false)], args := [d1, d2] }
  | _ => none }
def SpansWholeWrongFalsely : Prop := spansWholeRow.holds Try.pinned (OpenSpec.ofChange spansWholeWrong)

/- THE SECOND FORM. 'bulk': how many values and letters a reading holds, each counted each time it is reached (what is shared counts as often as it is met; a slice's spare places count too). A statement '..UptoSaid' is the law's where the arguments, and the package variables that the reading takes, are together of bulk at most 1048576: NARROWER than '..Said'. Prove '..Said' where nothing that the law and all that it calls make is longer than what came in: it says more and counts as full. Else prove '..UptoSaid'. A law counts once. -/
mutual
def uptoBulk {H : Type} : DataW H → Nat
  | .lit (.string bytes) => bytes.length + 1
  | .lit _ => 1
  | .nil => 1
  | .ptr d => uptoBulk d + 1
  | .slice elems spare => uptoBulkAll elems + uptoBulkAll spare + 1
  | .agg parts => uptoBulkAll parts + 1
  | .iface _ d => uptoBulk d + 1
  | .map entries => uptoBulkEntries entries + 1
  | .held _ => 1
def uptoBulkAll {H : Type} : List (DataW H) → Nat
  | [] => 0
  | d :: r => uptoBulk d + uptoBulkAll r
def uptoBulkEntries {H : Type} : List (Lit × DataW H) → Nat
  | [] => 0
  | x :: r => uptoBulkEntry x + uptoBulkEntries r
def uptoBulkEntry {H : Type} : Lit × DataW H → Nat
  | (.string bytes, d) => bytes.length + uptoBulk d + 1
  | (_, d) => uptoBulk d + 1
 end
def uptoSmall : (H : Type) → List (DataW H) → Bool := fun _ ds => decide (uptoBulkAll ds ≤ 1048576)
def OpenSpec.upto (s : _root_.Go.ChangeSpec) : _root_.Go.OpenSpec := { _root_.Go.OpenSpec.ofChange s with cond := some uptoSmall }

/-- 'copyholdlaw47.BoundMore', WHERE WHAT IT READS IS OF BULK AT MOST 1048576: true; the input reads as it did. -/
def boundMoreUptoRow : OpenClaim := { program := "ytfgfnfjeopjbgaa", sum := "42d580fb364f97193e32b841ddd540f071debb9c4ff75f8262aa2fdd0d15dd86", func := "copyhold/copyholdlaw47.BoundMore", spec := "boundMore", unfollowed := true, recurses := true, apart := false, narrowed := true }
def BoundMoreUptoSaid : Prop := boundMoreUptoRow.holds Try.pinned (OpenSpec.upto boundMoreSpec)

/-- 'copyholdlaw47.BoundParts', WHERE WHAT IT READS IS OF BULK AT MOST 1048576: true; the input reads as it did. -/
def boundPartsUptoRow : OpenClaim := { program := "ytfgfnfjeopjbgaa", sum := "42d580fb364f97193e32b841ddd540f071debb9c4ff75f8262aa2fdd0d15dd86", func := "copyhold/copyholdlaw47.BoundParts", spec := "boundParts", unfollowed := true, recurses := true, apart := false, narrowed := true }
def BoundPartsUptoSaid : Prop := boundPartsUptoRow.holds Try.pinned (OpenSpec.upto boundPartsSpec)

/-- 'copyholdlaw08.SpansFinds', WHERE WHAT IT READS IS OF BULK AT MOST 1048576: true; the input reads as it did. -/
def spansFindsUptoRow : OpenClaim := { program := "ytfgfnfjeopjbgaa", sum := "42d580fb364f97193e32b841ddd540f071debb9c4ff75f8262aa2fdd0d15dd86", func := "copyhold/copyholdlaw08.SpansFinds", spec := "spansFinds", unfollowed := true, recurses := true, apart := false, narrowed := true }
def SpansFindsUptoSaid : Prop := spansFindsUptoRow.holds Try.pinned (OpenSpec.upto spansFindsSpec)

/-- 'copyholdlaw08.SpansJoins', WHERE WHAT IT READS IS OF BULK AT MOST 1048576: true; the input reads as it did. -/
def spansJoinsUptoRow : OpenClaim := { program := "ytfgfnfjeopjbgaa", sum := "42d580fb364f97193e32b841ddd540f071debb9c4ff75f8262aa2fdd0d15dd86", func := "copyhold/copyholdlaw08.SpansJoins", spec := "spansJoins", unfollowed := true, recurses := true, apart := false, narrowed := true }
def SpansJoinsUptoSaid : Prop := spansJoinsUptoRow.holds Try.pinned (OpenSpec.upto spansJoinsSpec)

/-- 'copyholdlaw08.SpansBack', WHERE WHAT IT READS IS OF BULK AT MOST 1048576: true; the input reads as it did. -/
def spansBackUptoRow : OpenClaim := { program := "ytfgfnfjeopjbgaa", sum := "42d580fb364f97193e32b841ddd540f071debb9c4ff75f8262aa2fdd0d15dd86", func := "copyhold/copyholdlaw08.SpansBack", spec := "spansBack", unfollowed := true, recurses := true, apart := false, narrowed := true }
def SpansBackUptoSaid : Prop := spansBackUptoRow.holds Try.pinned (OpenSpec.upto spansBackSpec)

/-- 'copyholdlaw01.NumParts', WHERE WHAT IT READS IS OF BULK AT MOST 1048576: true; the input reads as it did. -/
def numPartsUptoRow : OpenClaim := { program := "ytfgfnfjeopjbgaa", sum := "42d580fb364f97193e32b841ddd540f071debb9c4ff75f8262aa2fdd0d15dd86", func := "copyhold/copyholdlaw01.NumParts", spec := "numParts", apart := false, narrowed := true }
def NumPartsUptoSaid : Prop := numPartsUptoRow.holds Try.pinned (OpenSpec.upto numPartsSpec)

/-- 'copyholdlaw01.NumAligns', WHERE WHAT IT READS IS OF BULK AT MOST 1048576: true; the input reads as it did. -/
def numAlignsUptoRow : OpenClaim := { program := "ytfgfnfjeopjbgaa", sum := "42d580fb364f97193e32b841ddd540f071debb9c4ff75f8262aa2fdd0d15dd86", func := "copyhold/copyholdlaw01.NumAligns", spec := "numAligns", apart := false, narrowed := true }
def NumAlignsUptoSaid : Prop := numAlignsUptoRow.holds Try.pinned (OpenSpec.upto numAlignsSpec)

/-- 'copyholdlaw39.PageRow', WHERE WHAT IT READS IS OF BULK AT MOST 1048576: true; the input reads as it did. -/
def pageRowUptoRow : OpenClaim := { program := "ytfgfnfjeopjbgaa", sum := "42d580fb364f97193e32b841ddd540f071debb9c4ff75f8262aa2fdd0d15dd86", func := "copyhold/copyholdlaw39.PageRow", spec := "pageRow", apart := false, narrowed := true }
def PageRowUptoSaid : Prop := pageRowUptoRow.holds Try.pinned (OpenSpec.upto pageRowSpec)

/-- 'copyholdlaw01.NumSums', WHERE WHAT IT READS IS OF BULK AT MOST 1048576: true; the input reads as it did. -/
def numSumsUptoRow : OpenClaim := { program := "ytfgfnfjeopjbgaa", sum := "42d580fb364f97193e32b841ddd540f071debb9c4ff75f8262aa2fdd0d15dd86", func := "copyhold/copyholdlaw01.NumSums", spec := "numSums", apart := false, narrowed := true }
def NumSumsUptoSaid : Prop := numSumsUptoRow.holds Try.pinned (OpenSpec.upto numSumsSpec)

/-- 'copyholdlaw01.NumBack', WHERE WHAT IT READS IS OF BULK AT MOST 1048576: true; the input reads as it did. -/
def numBackUptoRow : OpenClaim := { program := "ytfgfnfjeopjbgaa", sum := "42d580fb364f97193e32b841ddd540f071debb9c4ff75f8262aa2fdd0d15dd86", func := "copyhold/copyholdlaw01.NumBack", spec := "numBack", apart := false, narrowed := true }
def NumBackUptoSaid : Prop := numBackUptoRow.holds Try.pinned (OpenSpec.upto numBackSpec)

/-- 'copyholdlaw39.PageLays', WHERE WHAT IT READS IS OF BULK AT MOST 1048576: true; the input reads as it did. -/
def pageLaysUptoRow : OpenClaim := { program := "ytfgfnfjeopjbgaa", sum := "42d580fb364f97193e32b841ddd540f071debb9c4ff75f8262aa2fdd0d15dd86", func := "copyhold/copyholdlaw39.PageLays", spec := "pageLays", apart := false, narrowed := true }
def PageLaysUptoSaid : Prop := pageLaysUptoRow.holds Try.pinned (OpenSpec.upto pageLaysSpec)

/-- 'copyholdlaw08.SpansCuts', WHERE WHAT IT READS IS OF BULK AT MOST 1048576: true; the input reads as it did. -/
def spansCutsUptoRow : OpenClaim := { program := "ytfgfnfjeopjbgaa", sum := "42d580fb364f97193e32b841ddd540f071debb9c4ff75f8262aa2fdd0d15dd86", func := "copyhold/copyholdlaw08.SpansCuts", spec := "spansCuts", unfollowed := true, recurses := true, apart := false, narrowed := true }
def SpansCutsUptoSaid : Prop := spansCutsUptoRow.holds Try.pinned (OpenSpec.upto spansCutsSpec)

/-- 'copyholdlaw08.SpansWhole', WHERE WHAT IT READS IS OF BULK AT MOST 1048576: true; the input reads as it did. -/
def spansWholeUptoRow : OpenClaim := { program := "ytfgfnfjeopjbgaa", sum := "42d580fb364f97193e32b841ddd540f071debb9c4ff75f8262aa2fdd0d15dd86", func := "copyhold/copyholdlaw08.SpansWhole", spec := "spansWhole", unfollowed := true, recurses := true, apart := false, narrowed := true }
def SpansWholeUptoSaid : Prop := spansWholeUptoRow.holds Try.pinned (OpenSpec.upto spansWholeSpec)

end Rows
end Go.Proofs.Ytfgfnfjeopjbgaa
