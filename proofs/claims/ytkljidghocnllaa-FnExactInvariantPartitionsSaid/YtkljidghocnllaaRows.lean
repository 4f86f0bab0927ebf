/-
  No cell of these rows narrows 'for every input' (looked for: loops, veiled, ifaces, maps, wideKeys, modest, calm, conditions, laid).
  DERIVED. THE GIVEN ROWS OF THIS SEAT. 12 by the template 'for every input the law returns true; each argument reads behind the call as it read before'; 0 by the template 'total and deterministic' (their statements: YtkljidghocnllaaTotals.lean).
  GIVEN WITH THE SEED: the statements are not yours to turn. If you find one false, say at which input.
  Laid BY PROGRAM, IN A SANDBOX (cutbox-rows.mjs): the forced cells as the released guide's own fill.sh prints them over the translation 861d0e2bc3fceaad… (all of the seat's roots in one cut). By AI agents, Wed Nov 11 2026. No macro, syntax, notation, axiom, sorry.
-/
import Derived.Test.YtkljidghocnllaaChecked
import GoSem.Claim
import GoSem.ClaimJoined
import GoSem.ClaimMapViews
import Derived.JoinedTies
import Derived.KernelRfl
namespace Go.Proofs.Ytkljidghocnllaa
/- THE CELL 'sum', in the pinned program and in every row, IS THE sha256 OF THE DUMP (.gsa) THAT YtkljidghocnllaaProg.lean LOADS. Nothing in Lean hashes anything: it is a label: what it is worth is what the hold of that sum in a sandbox is worth. -/
noncomputable def Try.pinned : Pinned := { name := "ytkljidghocnllaa", sum := "861d0e2bc3fceaad9114cb1a4aee8202b0f78db7eb8202ed72e8e9ac016e0141", checked := Try.checked }
namespace Rows
def none {H : Type} : Left H := { results := [], args := [] }

/-- 'laws.FnExactCountRoots': WHATEVER THE INPUT: true; the input reads as it did. -/
def fnExactCountRootsSpec : ChangeSpec := { name := "fnExactCountRoots", fn := fun _ => fun
  | [d1, d2] => { results := [.lit (.bool true)], args := [d1, d2] }
  | _ => none }
def fnExactCountRootsRow : OpenClaim := { program := "ytkljidghocnllaa", sum := "861d0e2bc3fceaad9114cb1a4aee8202b0f78db7eb8202ed72e8e9ac016e0141", func := "loop.example/g01359/laws.FnExactCountRoots", spec := "fnExactCountRoots", unfollowed := true, recurses := true, apart := false }
def FnExactCountRootsSaid : Prop := fnExactCountRootsRow.holds Try.pinned (OpenSpec.ofChange fnExactCountRootsSpec)

/-- ITS FALSE NEIGHBOUR: 'it returns false'. Refute it at one input. -/
def fnExactCountRootsWrong : ChangeSpec := { name := "fnExactCountRoots", fn := fun _ => fun
  | [d1, d2] => { results := [.lit (.bool false)], args := [d1, d2] }
  | _ => none }
def FnExactCountRootsWrongFalsely : Prop := fnExactCountRootsRow.holds Try.pinned (OpenSpec.ofChange fnExactCountRootsWrong)

/-- 'laws.FnExactIsDesk': WHATEVER THE INPUT: true; the input reads as it did. -/
def fnExactIsDeskSpec : ChangeSpec := { name := "fnExactIsDesk", fn := fun _ => fun
  | [d] => { results := [.lit (.bool true)], args := [d] }
  | _ => none }
def fnExactIsDeskRow : OpenClaim := { program := "ytkljidghocnllaa", sum := "861d0e2bc3fceaad9114cb1a4aee8202b0f78db7eb8202ed72e8e9ac016e0141", func := "loop.example/g01359/laws.FnExactIsDesk", spec := "fnExactIsDesk", apart := false }
def FnExactIsDeskSaid : Prop := fnExactIsDeskRow.holds Try.pinned (OpenSpec.ofChange fnExactIsDeskSpec)

/-- ITS FALSE NEIGHBOUR: 'it returns false'. Refute it at one input. -/
def fnExactIsDeskWrong : ChangeSpec := { name := "fnExactIsDesk", fn := fun _ => fun
  | [d] => { results := [.lit (.bool false)], args := [d] }
  | _ => none }
def FnExactIsDeskWrongFalsely : Prop := fnExactIsDeskRow.holds Try.pinned (OpenSpec.ofChange fnExactIsDeskWrong)

/-- 'laws.FnExactCountTableSymmetries': WHATEVER THE INPUT: true; the input reads as it did. -/
def fnExactCountTableSymmetriesSpec : ChangeSpec := { name := "fnExactCountTableSymmetries", fn := fun _ => fun
  | [d] => { results := [.lit (.bool true)], args := [d] }
  | _ => none }
def fnExactCountTableSymmetriesRow : OpenClaim := { program := "ytkljidghocnllaa", sum := "861d0e2bc3fceaad9114cb1a4aee8202b0f78db7eb8202ed72e8e9ac016e0141", func := "loop.example/g01359/laws.FnExactCountTableSymmetries", spec := "fnExactCountTableSymmetries", unfollowed := true, recurses := true, apart := false }
def FnExactCountTableSymmetriesSaid : Prop := fnExactCountTableSymmetriesRow.holds Try.pinned (OpenSpec.ofChange fnExactCountTableSymmetriesSpec)

/-- ITS FALSE NEIGHBOUR: 'it returns false'. Refute it at one input. -/
def fnExactCountTableSymmetriesWrong : ChangeSpec := { name := "fnExactCountTableSymmetries", fn := fun _ => fun
  | [d] => { results := [.lit (.bool false)], args := [d] }
  | _ => none }
def FnExactCountTableSymmetriesWrongFalsely : Prop := fnExactCountTableSymmetriesRow.holds Try.pinned (OpenSpec.ofChange fnExactCountTableSymmetriesWrong)

/-- 'laws.FnExactFirstRoot': WHATEVER THE INPUT: true; the input reads as it did. -/
def fnExactFirstRootSpec : ChangeSpec := { name := "fnExactFirstRoot", fn := fun _ => fun
  | [d1, d2] => { results := [.lit (.bool true)], args := [d1, d2] }
  | _ => none }
def fnExactFirstRootRow : OpenClaim := { program := "ytkljidghocnllaa", sum := "861d0e2bc3fceaad9114cb1a4aee8202b0f78db7eb8202ed72e8e9ac016e0141", func := "loop.example/g01359/laws.FnExactFirstRoot", spec := "fnExactFirstRoot", unfollowed := true, recurses := true, apart := false }
def FnExactFirstRootSaid : Prop := fnExactFirstRootRow.holds Try.pinned (OpenSpec.ofChange fnExactFirstRootSpec)

/-- ITS FALSE NEIGHBOUR: 'it returns false'. Refute it at one input. -/
def fnExactFirstRootWrong : ChangeSpec := { name := "fnExactFirstRoot", fn := fun _ => fun
  | [d1, d2] => { results := [.lit (.bool false)], args := [d1, d2] }
  | _ => none }
def FnExactFirstRootWrongFalsely : Prop := fnExactFirstRootRow.holds Try.pinned (OpenSpec.ofChange fnExactFirstRootWrong)

/-- 'laws.FnExactFindIsomorphism': WHATEVER THE INPUT: true; the input reads as it did. -/
def fnExactFindIsomorphismSpec : ChangeSpec := { name := "fnExactFindIsomorphism", fn := fun _ => fun
  | [d1, d2] => { results := [.lit (.bool true)], args := [d1, d2] }
  | _ => none }
def fnExactFindIsomorphismRow : OpenClaim := { program := "ytkljidghocnllaa", sum := "861d0e2bc3fceaad9114cb1a4aee8202b0f78db7eb8202ed72e8e9ac016e0141", func := "loop.example/g01359/laws.FnExactFindIsomorphism", spec := "fnExactFindIsomorphism", unfollowed := true, recurses := true, apart := false }
def FnExactFindIsomorphismSaid : Prop := fnExactFindIsomorphismRow.holds Try.pinned (OpenSpec.ofChange fnExactFindIsomorphismSpec)

/-- ITS FALSE NEIGHBOUR: 'it returns false'. Refute it at one input. -/
def fnExactFindIsomorphismWrong : ChangeSpec := { name := "fnExactFindIsomorphism", fn := fun _ => fun
  | [d1, d2] => { results := [.lit (.bool false)], args := [d1, d2] }
  | _ => none }
def FnExactFindIsomorphismWrongFalsely : Prop := fnExactFindIsomorphismRow.holds Try.pinned (OpenSpec.ofChange fnExactFindIsomorphismWrong)

/-- 'laws.FnExactSideBySide': WHATEVER THE INPUT: true; the input reads as it did. -/
def fnExactSideBySideSpec : ChangeSpec := { name := "fnExactSideBySide", fn := fun _ => fun
  | [d1, d2] => { results := [.lit (.bool true)], args := [d1, d2] }
  | _ => none }
def fnExactSideBySideRow : OpenClaim := { program := "ytkljidghocnllaa", sum := "861d0e2bc3fceaad9114cb1a4aee8202b0f78db7eb8202ed72e8e9ac016e0141", func := "loop.example/g01359/laws.FnExactSideBySide", spec := "fnExactSideBySide", apart := false }
def FnExactSideBySideSaid : Prop := fnExactSideBySideRow.holds Try.pinned (OpenSpec.ofChange fnExactSideBySideSpec)

/-- ITS FALSE NEIGHBOUR: 'it returns false'. Refute it at one input. -/
def fnExactSideBySideWrong : ChangeSpec := { name := "fnExactSideBySide", fn := fun _ => fun
  | [d1, d2] => { results := [.lit (.bool false)], args := [d1, d2] }
  | _ => none }
def FnExactSideBySideWrongFalsely : Prop := fnExactSideBySideRow.holds Try.pinned (OpenSpec.ofChange fnExactSideBySideWrong)

/-- 'laws.FnExactIsInvariantPartition': WHATEVER THE INPUT: true; the input reads as it did. -/
def fnExactIsInvariantPartitionSpec : ChangeSpec := { name := "fnExactIsInvariantPartition", fn := fun _ => fun
  | [d1, d2] => { results := [.lit (.bool true)], args := [d1, d2] }
  | _ => none }
def fnExactIsInvariantPartitionRow : OpenClaim := { program := "ytkljidghocnllaa", sum := "861d0e2bc3fceaad9114cb1a4aee8202b0f78db7eb8202ed72e8e9ac016e0141", func := "loop.example/g01359/laws.FnExactIsInvariantPartition", spec := "fnExactIsInvariantPartition", apart := false }
def FnExactIsInvariantPartitionSaid : Prop := fnExactIsInvariantPartitionRow.holds Try.pinned (OpenSpec.ofChange fnExactIsInvariantPartitionSpec)

/-- ITS FALSE NEIGHBOUR: 'it returns false'. Refute it at one input. -/
def fnExactIsInvariantPartitionWrong : ChangeSpec := { name := "fnExactIsInvariantPartition", fn := fun _ => fun
  | [d1, d2] => { results := [.lit (.bool false)], args := [d1, d2] }
  | _ => none }
def FnExactIsInvariantPartitionWrongFalsely : Prop := fnExactIsInvariantPartitionRow.holds Try.pinned (OpenSpec.ofChange fnExactIsInvariantPartitionWrong)

/-- 'laws.FnExactMapsOfTable': WHATEVER THE INPUT: true; the input reads as it did. -/
def fnExactMapsOfTableSpec : ChangeSpec := { name := "fnExactMapsOfTable", fn := fun _ => fun
  | [d] => { results := [.lit (.bool true)], args := [d] }
  | _ => none }
def fnExactMapsOfTableRow : OpenClaim := { program := "ytkljidghocnllaa", sum := "861d0e2bc3fceaad9114cb1a4aee8202b0f78db7eb8202ed72e8e9ac016e0141", func := "loop.example/g01359/laws.FnExactMapsOfTable", spec := "fnExactMapsOfTable", unfollowed := true, recurses := true, apart := false }
def FnExactMapsOfTableSaid : Prop := fnExactMapsOfTableRow.holds Try.pinned (OpenSpec.ofChange fnExactMapsOfTableSpec)

/-- ITS FALSE NEIGHBOUR: 'it returns false'. Refute it at one input. -/
def fnExactMapsOfTableWrong : ChangeSpec := { name := "fnExactMapsOfTable", fn := fun _ => fun
  | [d] => { results := [.lit (.bool false)], args := [d] }
  | _ => none }
def FnExactMapsOfTableWrongFalsely : Prop := fnExactMapsOfTableRow.holds Try.pinned (OpenSpec.ofChange fnExactMapsOfTableWrong)

/-- 'laws.FnExactListOfClasses': WHATEVER THE INPUT: true; the input reads as it did. -/
def fnExactListOfClassesSpec : ChangeSpec := { name := "fnExactListOfClasses", fn := fun _ => fun
  | [d1, d2] => { results := [.lit (.bool true)], args := [d1, d2] }
  | _ => none }
def fnExactListOfClassesRow : OpenClaim := { program := "ytkljidghocnllaa", sum := "861d0e2bc3fceaad9114cb1a4aee8202b0f78db7eb8202ed72e8e9ac016e0141", func := "loop.example/g01359/laws.FnExactListOfClasses", spec := "fnExactListOfClasses", apart := false }
def FnExactListOfClassesSaid : Prop := fnExactListOfClassesRow.holds Try.pinned (OpenSpec.ofChange fnExactListOfClassesSpec)

/-- ITS FALSE NEIGHBOUR: 'it returns false'. Refute it at one input. -/
def fnExactListOfClassesWrong : ChangeSpec := { name := "fnExactListOfClasses", fn := fun _ => fun
  | [d1, d2] => { results := [.lit (.bool false)], args := [d1, d2] }
  | _ => none }
def FnExactListOfClassesWrongFalsely : Prop := fnExactListOfClassesRow.holds Try.pinned (OpenSpec.ofChange fnExactListOfClassesWrong)

/-- 'laws.FnExactInvariantPartitions': WHATEVER THE INPUT: true; the input reads as it did. -/
def fnExactInvariantPartitionsSpec : ChangeSpec := { name := "fnExactInvariantPartitions", fn := fun _ => fun
  | [d] => { results := [.lit (.bool true)], args := [d] }
  | _ => none }
def fnExactInvariantPartitionsRow : OpenClaim := { program := "ytkljidghocnllaa", sum := "861d0e2bc3fceaad9114cb1a4aee8202b0f78db7eb8202ed72e8e9ac016e0141", func := "loop.example/g01359/laws.FnExactInvariantPartitions", spec := "fnExactInvariantPartitions", unfollowed := true, recurses := true, apart := false }
def FnExactInvariantPartitionsSaid : Prop := fnExactInvariantPartitionsRow.holds Try.pinned (OpenSpec.ofChange fnExactInvariantPartitionsSpec)

/-- ITS FALSE NEIGHBOUR: 'it returns false'. Refute it at one input. -/
def fnExactInvariantPartitionsWrong : ChangeSpec := { name := "fnExactInvariantPartitions", fn := fun _ => fun
  | [d] => { results := [.lit (.bool false)], args := [d] }
  | _ => none }
def FnExactInvariantPartitionsWrongFalsely : Prop := fnExactInvariantPartitionsRow.holds Try.pinned (OpenSpec.ofChange fnExactInvariantPartitionsWrong)

/-- 'laws.FnExactIsIsomorphism': WHATEVER THE INPUT: true; the input reads as it did. -/
def fnExactIsIsomorphismSpec : ChangeSpec := { name := "fnExactIsIsomorphism", fn := fun _ => fun
  | [d1, d2, d3] => { results := [.lit (.bool true)], args := [d1, d2, d3] }
  | _ => none }
def fnExactIsIsomorphismRow : OpenClaim := { program := "ytkljidghocnllaa", sum := "861d0e2bc3fceaad9114cb1a4aee8202b0f78db7eb8202ed72e8e9ac016e0141", func := "loop.example/g01359/laws.FnExactIsIsomorphism", spec := "fnExactIsIsomorphism", unfollowed := true, recurses := true, apart := false }
def FnExactIsIsomorphismSaid : Prop := fnExactIsIsomorphismRow.holds Try.pinned (OpenSpec.ofChange fnExactIsIsomorphismSpec)

/-- ITS FALSE NEIGHBOUR: 'it returns false'. Refute it at one input. -/
def fnExactIsIsomorphismWrong : ChangeSpec := { name := "fnExactIsIsomorphism", fn := fun _ => fun
  | [d1, d2, d3] => { results := [.lit (.bool false)], args := [d1, d2, d3] }
  | _ => none }
def FnExactIsIsomorphismWrongFalsely : Prop := fnExactIsIsomorphismRow.holds Try.pinned (OpenSpec.ofChange fnExactIsIsomorphismWrong)

/-- 'laws.FnExactCountSameShape': WHATEVER THE INPUT: true; the input reads as it did. -/
def fnExactCountSameShapeSpec : ChangeSpec := { name := "fnExactCountSameShape", fn := fun _ => fun
  | [d] => { results := [.lit (.bool true)], args := [d] }
  | _ => none }
def fnExactCountSameShapeRow : OpenClaim := { program := "ytkljidghocnllaa", sum := "861d0e2bc3fceaad9114cb1a4aee8202b0f78db7eb8202ed72e8e9ac016e0141", func := "loop.example/g01359/laws.FnExactCountSameShape", spec := "fnExactCountSameShape", unfollowed := true, recurses := true, apart := false }
def FnExactCountSameShapeSaid : Prop := fnExactCountSameShapeRow.holds Try.pinned (OpenSpec.ofChange fnExactCountSameShapeSpec)

/-- ITS FALSE NEIGHBOUR: 'it returns false'. Refute it at one input. -/
def fnExactCountSameShapeWrong : ChangeSpec := { name := "fnExactCountSameShape", fn := fun _ => fun
  | [d] => { results := [.lit (.bool false)], args := [d] }
  | _ => none }
def FnExactCountSameShapeWrongFalsely : Prop := fnExactCountSameShapeRow.holds Try.pinned (OpenSpec.ofChange fnExactCountSameShapeWrong)

/- THE SECOND FORM. 'bulk': how many values and letters a reading holds, each counted each time it is reached (what is shared counts as often as it is met; a slice's spare places count too). A statement '..UptoSaid' is the law's where the arguments, and the package variables that the reading takes, are together of bulk at most 1048576: NARROWER than '..Said'. Prove '..Said' where nothing that the law and all that it calls make is longer than what came in: it says more and counts as full. Else prove '..UptoSaid'. A law counts once. -/
mutual
def uptoBulk {H : Type} : DataW H → Nat
  | .lit (.string bytes) => bytes.length + 1
  | .lit _ => 1
  | .nil => 1
  | .ptr d => uptoBulk d + 1
  | .slice elems spare => uptoBulkAll elems + uptoBulkAll spare + 1
  | .agg parts => uptoBulkAll parts + 1
  | .iface _ d => uptoBulk d + 1
  | .map entries => uptoBulkEntries entries + 1
  | .held _ => 1
def uptoBulkAll {H : Type} : List (DataW H) → Nat
  | [] => 0
  | d :: r => uptoBulk d + uptoBulkAll r
def uptoBulkEntries {H : Type} : List (Lit × DataW H) → Nat
  | [] => 0
  | x :: r => uptoBulkEntry x + uptoBulkEntries r
def uptoBulkEntry {H : Type} : Lit × DataW H → Nat
  | (.string bytes, d) => bytes.length + uptoBulk d + 1
  | (_, d) => uptoBulk d + 1
 end
def uptoSmall : (H : Type) → List (DataW H) → Bool := fun _ ds => decide (uptoBulkAll ds ≤ 1048576)
def OpenSpec.upto (s : _root_.Go.ChangeSpec) : _root_.Go.OpenSpec := { _root_.Go.OpenSpec.ofChange s with cond := some uptoSmall }

/-- 'laws.FnExactCountRoots', WHERE WHAT IT READS IS OF BULK AT MOST 1048576: true; the input reads as it did. -/
def fnExactCountRootsUptoRow : OpenClaim := { program := "ytkljidghocnllaa", sum := "861d0e2bc3fceaad9114cb1a4aee8202b0f78db7eb8202ed72e8e9ac016e0141", func := "loop.example/g01359/laws.FnExactCountRoots", spec := "fnExactCountRoots", unfollowed := true, recurses := true, apart := false, narrowed := true }
def FnExactCountRootsUptoSaid : Prop := fnExactCountRootsUptoRow.holds Try.pinned (OpenSpec.upto fnExactCountRootsSpec)

/-- 'laws.FnExactIsDesk', WHERE WHAT IT READS IS OF BULK AT MOST 1048576: true; the input reads as it did. -/
def fnExactIsDeskUptoRow : OpenClaim := { program := "ytkljidghocnllaa", sum := "861d0e2bc3fceaad9114cb1a4aee8202b0f78db7eb8202ed72e8e9ac016e0141", func := "loop.example/g01359/laws.FnExactIsDesk", spec := "fnExactIsDesk", apart := false, narrowed := true }
def FnExactIsDeskUptoSaid : Prop := fnExactIsDeskUptoRow.holds Try.pinned (OpenSpec.upto fnExactIsDeskSpec)

/-- 'laws.FnExactCountTableSymmetries', WHERE WHAT IT READS IS OF BULK AT MOST 1048576: true; the input reads as it did. -/
def fnExactCountTableSymmetriesUptoRow : OpenClaim := { program := "ytkljidghocnllaa", sum := "861d0e2bc3fceaad9114cb1a4aee8202b0f78db7eb8202ed72e8e9ac016e0141", func := "loop.example/g01359/laws.FnExactCountTableSymmetries", spec := "fnExactCountTableSymmetries", unfollowed := true, recurses := true, apart := false, narrowed := true }
def FnExactCountTableSymmetriesUptoSaid : Prop := fnExactCountTableSymmetriesUptoRow.holds Try.pinned (OpenSpec.upto fnExactCountTableSymmetriesSpec)

/-- 'laws.FnExactFirstRoot', WHERE WHAT IT READS IS OF BULK AT MOST 1048576: true; the input reads as it did. -/
def fnExactFirstRootUptoRow : OpenClaim := { program := "ytkljidghocnllaa", sum := "861d0e2bc3fceaad9114cb1a4aee8202b0f78db7eb8202ed72e8e9ac016e0141", func := "loop.example/g01359/laws.FnExactFirstRoot", spec := "fnExactFirstRoot", unfollowed := true, recurses := true, apart := false, narrowed := true }
def FnExactFirstRootUptoSaid : Prop := fnExactFirstRootUptoRow.holds Try.pinned (OpenSpec.upto fnExactFirstRootSpec)

/-- 'laws.FnExactFindIsomorphism', WHERE WHAT IT READS IS OF BULK AT MOST 1048576: true; the input reads as it did. -/
def fnExactFindIsomorphismUptoRow : OpenClaim := { program := "ytkljidghocnllaa", sum := "861d0e2bc3fceaad9114cb1a4aee8202b0f78db7eb8202ed72e8e9ac016e0141", func := "loop.example/g01359/laws.FnExactFindIsomorphism", spec := "fnExactFindIsomorphism", unfollowed := true, recurses := true, apart := false, narrowed := true }
def FnExactFindIsomorphismUptoSaid : Prop := fnExactFindIsomorphismUptoRow.holds Try.pinned (OpenSpec.upto fnExactFindIsomorphismSpec)

/-- 'laws.FnExactSideBySide', WHERE WHAT IT READS IS OF BULK AT MOST 1048576: true; the input reads as it did. -/
def fnExactSideBySideUptoRow : OpenClaim := { program := "ytkljidghocnllaa", sum := "861d0e2bc3fceaad9114cb1a4aee8202b0f78db7eb8202ed72e8e9ac016e0141", func := "loop.example/g01359/laws.FnExactSideBySide", spec := "fnExactSideBySide", apart := false, narrowed := true }
def FnExactSideBySideUptoSaid : Prop := fnExactSideBySideUptoRow.holds Try.pinned (OpenSpec.upto fnExactSideBySideSpec)

/-- 'laws.FnExactIsInvariantPartition', WHERE WHAT IT READS IS OF BULK AT MOST 1048576: true; the input reads as it did. -/
def fnExactIsInvariantPartitionUptoRow : OpenClaim := { program := "ytkljidghocnllaa", sum := "861d0e2bc3fceaad9114cb1a4aee8202b0f78db7eb8202ed72e8e9ac016e0141", func := "loop.example/g01359/laws.FnExactIsInvariantPartition", spec := "fnExactIsInvariantPartition", apart := false, narrowed := true }
def FnExactIsInvariantPartitionUptoSaid : Prop := fnExactIsInvariantPartitionUptoRow.holds Try.pinned (OpenSpec.upto fnExactIsInvariantPartitionSpec)

/-- 'laws.FnExactMapsOfTable', WHERE WHAT IT READS IS OF BULK AT MOST 1048576: true; the input reads as it did. -/
def fnExactMapsOfTableUptoRow : OpenClaim := { program := "ytkljidghocnllaa", sum := "861d0e2bc3fceaad9114cb1a4aee8202b0f78db7eb8202ed72e8e9ac016e0141", func := "loop.example/g01359/laws.FnExactMapsOfTable", spec := "fnExactMapsOfTable", unfollowed := true, recurses := true, apart := false, narrowed := true }
def FnExactMapsOfTableUptoSaid : Prop := fnExactMapsOfTableUptoRow.holds Try.pinned (OpenSpec.upto fnExactMapsOfTableSpec)

/-- 'laws.FnExactListOfClasses', WHERE WHAT IT READS IS OF BULK AT MOST 1048576: true; the input reads as it did. -/
def fnExactListOfClassesUptoRow : OpenClaim := { program := "ytkljidghocnllaa", sum := "861d0e2bc3fceaad9114cb1a4aee8202b0f78db7eb8202ed72e8e9ac016e0141", func := "loop.example/g01359/laws.FnExactListOfClasses", spec := "fnExactListOfClasses", apart := false, narrowed := true }
def FnExactListOfClassesUptoSaid : Prop := fnExactListOfClassesUptoRow.holds Try.pinned (OpenSpec.upto fnExactListOfClassesSpec)

/-- 'laws.FnExactInvariantPartitions', WHERE WHAT IT READS IS OF BULK AT MOST 1048576: true; the input reads as it did. -/
def fnExactInvariantPartitionsUptoRow : OpenClaim := { program := "ytkljidghocnllaa", sum := "861d0e2bc3fceaad9114cb1a4aee8202b0f78db7eb8202ed72e8e9ac016e0141", func := "loop.example/g01359/laws.FnExactInvariantPartitions", spec := "fnExactInvariantPartitions", unfollowed := true, recurses := true, apart := false, narrowed := true }
def FnExactInvariantPartitionsUptoSaid : Prop := fnExactInvariantPartitionsUptoRow.holds Try.pinned (OpenSpec.upto fnExactInvariantPartitionsSpec)

/-- 'laws.FnExactIsIsomorphism', WHERE WHAT IT READS IS OF BULK AT MOST 1048576: true; the input reads as it did. -/
def fnExactIsIsomorphismUptoRow : OpenClaim := { program := "ytkljidghocnllaa", sum := "861d0e2bc3fceaad9114cb1a4aee8202b0f78db7eb8202ed72e8e9ac016e0141", func := "loop.example/g01359/laws.FnExactIsIsomorphism", spec := "fnExactIsIsomorphism", unfollowed := true, recurses := true, apart := false, narrowed := true }
def FnExactIsIsomorphismUptoSaid : Prop := fnExactIsIsomorphismUptoRow.holds Try.pinned (OpenSpec.upto fnExactIsIsomorphismSpec)

/-- 'laws.FnExactCountSameShape', WHERE WHAT IT READS IS OF BULK AT MOST 1048576: true; the input reads as it did. -/
def fnExactCountSameShapeUptoRow : OpenClaim := { program := "ytkljidghocnllaa", sum := "861d0e2bc3fceaad9114cb1a4aee8202b0f78db7eb8202ed72e8e9ac016e0141", func := "loop.example/g01359/laws.FnExactCountSameShape", spec := "fnExactCountSameShape", unfollowed := true, recurses := true, apart := false, narrowed := true }
def FnExactCountSameShapeUptoSaid : Prop := fnExactCountSameShapeUptoRow.holds Try.pinned (OpenSpec.upto fnExactCountSameShapeSpec)

end Rows
end Go.Proofs.Ytkljidghocnllaa
