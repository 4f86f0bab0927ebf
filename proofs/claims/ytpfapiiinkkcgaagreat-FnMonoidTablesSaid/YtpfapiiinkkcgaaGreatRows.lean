/-
  No cell of these rows narrows 'for every input' (looked for: loops, veiled, ifaces, maps, wideKeys, modest, calm, conditions, laid).
  DERIVED. THE GIVEN ROWS OF THIS SEAT. 3 by the template 'for every input the law returns true; each argument reads behind the call as it read before'; 0 by the template 'total and deterministic' (their statements: YtpfapiiinkkcgaaGreatTotals.lean).
  GIVEN WITH THE SEED: the statements are not yours to turn. If you find one false, say at which input.
  Laid BY PROGRAM, IN A SANDBOX (cutbox-rows.mjs): the forced cells as the released guide's own fill.sh prints them over the translation cf172eb622e82eba… (all of the seat's roots in one cut). By AI agents, Wed Nov 11 2026. No macro, syntax, notation, axiom, sorry.
-/
import Derived.Test.YtpfapiiinkkcgaaGreatChecked
import GoSem.Claim
import GoSem.ClaimJoined
import GoSem.ClaimMapViews
import Derived.JoinedTies
import Derived.KernelRfl
namespace Go.Proofs.YtpfapiiinkkcgaaGreat
/- THE CELL 'sum', in the pinned program and in every row, IS THE sha256 OF THE DUMP (.gsa) THAT YtpfapiiinkkcgaaGreatProg.lean LOADS. Nothing in Lean hashes anything: it is a label: what it is worth is what the hold of that sum in a sandbox is worth. -/
noncomputable def Tryz.pinned : Pinned := { name := "ytpfapiiinkkcgaagreat", sum := "cf172eb622e82ebab23562356fbf16dd4d59de8cff1e1a7ae602202f98dbe392", checked := Tryz.checked }
namespace Rows
def none {H : Type} : Left H := { results := [], args := [] }

/-- 'laws.FnNumbersOfMaps': WHATEVER THE INPUT: true; the input reads as it did. -/
def fnNumbersOfMapsSpec : ChangeSpec := { name := "fnNumbersOfMaps", fn := fun _ => fun
  | [d] => { results := [.lit (.bool true)], args := [d] }
  | _ => none }
def fnNumbersOfMapsRow : OpenClaim := { program := "ytpfapiiinkkcgaagreat", sum := "cf172eb622e82ebab23562356fbf16dd4d59de8cff1e1a7ae602202f98dbe392", func := "loop.example/g01359/laws.FnNumbersOfMaps", spec := "fnNumbersOfMaps", unfollowed := true, recurses := true, apart := false }
def FnNumbersOfMapsSaid : Prop := fnNumbersOfMapsRow.holds Tryz.pinned (OpenSpec.ofChange fnNumbersOfMapsSpec)

/-- ITS FALSE NEIGHBOUR: 'it returns false'. Refute it at one input. -/
def fnNumbersOfMapsWrong : ChangeSpec := { name := "fnNumbersOfMaps", fn := fun _ => fun
  | [d] => { results := [.lit (.bool false)], args := [d] }
  | _ => none }
def FnNumbersOfMapsWrongFalsely : Prop := fnNumbersOfMapsRow.holds Tryz.pinned (OpenSpec.ofChange fnNumbersOfMapsWrong)

/-- 'laws.FnMonoidTables': WHATEVER THE INPUT: true; the input reads as it did. -/
def fnMonoidTablesSpec : ChangeSpec := { name := "fnMonoidTables", fn := fun _ => fun
  | [d] => { results := [.lit (.bool true)], args := [d] }
  | _ => none }
def fnMonoidTablesRow : OpenClaim := { program := "ytpfapiiinkkcgaagreat", sum := "cf172eb622e82ebab23562356fbf16dd4d59de8cff1e1a7ae602202f98dbe392", func := "loop.example/g01359/laws.FnMonoidTables", spec := "fnMonoidTables", unfollowed := true, recurses := true, apart := false }
def FnMonoidTablesSaid : Prop := fnMonoidTablesRow.holds Tryz.pinned (OpenSpec.ofChange fnMonoidTablesSpec)

/-- ITS FALSE NEIGHBOUR: 'it returns false'. Refute it at one input. -/
def fnMonoidTablesWrong : ChangeSpec := { name := "fnMonoidTables", fn := fun _ => fun
  | [d] => { results := [.lit (.bool false)], args := [d] }
  | _ => none }
def FnMonoidTablesWrongFalsely : Prop := fnMonoidTablesRow.holds Tryz.pinned (OpenSpec.ofChange fnMonoidTablesWrong)

/-- 'laws.FnSameShapes': WHATEVER THE INPUT: true; the input reads as it did. -/
def fnSameShapesSpec : ChangeSpec := { name := "fnSameShapes", fn := fun _ => fun
  | [d] => { results := [.lit (.bool true)], args := [d] }
  | _ => none }
def fnSameShapesRow : OpenClaim := { program := "ytpfapiiinkkcgaagreat", sum := "cf172eb622e82ebab23562356fbf16dd4d59de8cff1e1a7ae602202f98dbe392", func := "loop.example/g01359/laws.FnSameShapes", spec := "fnSameShapes", unfollowed := true, recurses := true, apart := false }
def FnSameShapesSaid : Prop := fnSameShapesRow.holds Tryz.pinned (OpenSpec.ofChange fnSameShapesSpec)

/-- ITS FALSE NEIGHBOUR: 'it returns false'. Refute it at one input. -/
def fnSameShapesWrong : ChangeSpec := { name := "fnSameShapes", fn := fun _ => fun
  | [d] => { results := [.lit (.bool false)], args := [d] }
  | _ => none }
def FnSameShapesWrongFalsely : Prop := fnSameShapesRow.holds Tryz.pinned (OpenSpec.ofChange fnSameShapesWrong)

/- THE SECOND FORM. 'bulk': how many values and letters a reading holds, each counted each time it is reached (what is shared counts as often as it is met; a slice's spare places count too). A statement '..UptoSaid' is the law's where the arguments, and the package variables that the reading takes, are together of bulk at most 1048576: NARROWER than '..Said'. Prove '..Said' where nothing that the law and all that it calls make is longer than what came in: it says more and counts as full. Else prove '..UptoSaid'. A law counts once. -/
mutual
def uptoBulk {H : Type} : DataW H → Nat
  | .lit (.string bytes) => bytes.length + 1
  | .lit _ => 1
  | .nil => 1
  | .ptr d => uptoBulk d + 1
  | .slice elems spare => uptoBulkAll elems + uptoBulkAll spare + 1
  | .agg parts => uptoBulkAll parts + 1
  | .iface _ d => uptoBulk d + 1
  | .map entries => uptoBulkEntries entries + 1
  | .held _ => 1
def uptoBulkAll {H : Type} : List (DataW H) → Nat
  | [] => 0
  | d :: r => uptoBulk d + uptoBulkAll r
def uptoBulkEntries {H : Type} : List (Lit × DataW H) → Nat
  | [] => 0
  | x :: r => uptoBulkEntry x + uptoBulkEntries r
def uptoBulkEntry {H : Type} : Lit × DataW H → Nat
  | (.string bytes, d) => bytes.length + uptoBulk d + 1
  | (_, d) => uptoBulk d + 1
 end
def uptoSmall : (H : Type) → List (DataW H) → Bool := fun _ ds => decide (uptoBulkAll ds ≤ 1048576)
def OpenSpec.upto (s : _root_.Go.ChangeSpec) : _root_.Go.OpenSpec := { _root_.Go.OpenSpec.ofChange s with cond := some uptoSmall }

/-- 'laws.FnNumbersOfMaps', WHERE WHAT IT READS IS OF BULK AT MOST 1048576: true; the input reads as it did. -/
def fnNumbersOfMapsUptoRow : OpenClaim := { program := "ytpfapiiinkkcgaagreat", sum := "cf172eb622e82ebab23562356fbf16dd4d59de8cff1e1a7ae602202f98dbe392", func := "loop.example/g01359/laws.FnNumbersOfMaps", spec := "fnNumbersOfMaps", unfollowed := true, recurses := true, apart := false, narrowed := true }
def FnNumbersOfMapsUptoSaid : Prop := fnNumbersOfMapsUptoRow.holds Tryz.pinned (OpenSpec.upto fnNumbersOfMapsSpec)

/-- 'laws.FnMonoidTables', WHERE WHAT IT READS IS OF BULK AT MOST 1048576: true; the input reads as it did. -/
def fnMonoidTablesUptoRow : OpenClaim := { program := "ytpfapiiinkkcgaagreat", sum := "cf172eb622e82ebab23562356fbf16dd4d59de8cff1e1a7ae602202f98dbe392", func := "loop.example/g01359/laws.FnMonoidTables", spec := "fnMonoidTables", unfollowed := true, recurses := true, apart := false, narrowed := true }
def FnMonoidTablesUptoSaid : Prop := fnMonoidTablesUptoRow.holds Tryz.pinned (OpenSpec.upto fnMonoidTablesSpec)

/-- 'laws.FnSameShapes', WHERE WHAT IT READS IS OF BULK AT MOST 1048576: true; the input reads as it did. -/
def fnSameShapesUptoRow : OpenClaim := { program := "ytpfapiiinkkcgaagreat", sum := "cf172eb622e82ebab23562356fbf16dd4d59de8cff1e1a7ae602202f98dbe392", func := "loop.example/g01359/laws.FnSameShapes", spec := "fnSameShapes", unfollowed := true, recurses := true, apart := false, narrowed := true }
def FnSameShapesUptoSaid : Prop := fnSameShapesUptoRow.holds Tryz.pinned (OpenSpec.upto fnSameShapesSpec)

end Rows
end Go.Proofs.YtpfapiiinkkcgaaGreat
