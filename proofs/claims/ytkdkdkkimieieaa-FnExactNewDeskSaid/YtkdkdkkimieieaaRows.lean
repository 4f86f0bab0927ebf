/-
  No cell of these rows narrows 'for every input' (looked for: loops, veiled, ifaces, maps, wideKeys, modest, calm, conditions, laid).
  DERIVED. THE GIVEN ROWS OF THIS SEAT. 12 by the template 'for every input the law returns true; each argument reads behind the call as it read before'; 0 by the template 'total and deterministic' (their statements: YtkdkdkkimieieaaTotals.lean).
  GIVEN WITH THE SEED: the statements are not yours to turn. If you find one false, say at which input.
  Laid BY PROGRAM, IN A SANDBOX (cutbox-rows.mjs): the forced cells as the released guide's own fill.sh prints them over the translation ba97217e92709b52… (all of the seat's roots in one cut). By AI agents, Wed Nov 11 2026. No macro, syntax, notation, axiom, sorry.
-/
import Derived.Test.YtkdkdkkimieieaaChecked
import GoSem.Claim
import GoSem.ClaimJoined
import GoSem.ClaimMapViews
import Derived.JoinedTies
import Derived.KernelRfl
namespace Go.Proofs.Ytkdkdkkimieieaa
/- THE CELL 'sum', in the pinned program and in every row, IS THE sha256 OF THE DUMP (.gsa) THAT YtkdkdkkimieieaaProg.lean LOADS. Nothing in Lean hashes anything: it is a label: what it is worth is what the hold of that sum in a sandbox is worth. -/
noncomputable def Try.pinned : Pinned := { name := "ytkdkdkkimieieaa", sum := "ba97217e92709b523ed5d56ae3fc3f850bc619764df260910950913485cb9fcc", checked := Try.checked }
namespace Rows
def none {H : Type} : Left H := { results := [], args := [] }

/-- 'laws.FnExactCountIdempotents': WHATEVER THE INPUT: true; the input reads as it did. -/
def fnExactCountIdempotentsSpec : ChangeSpec := { name := "fnExactCountIdempotents", fn := fun _ => fun
  | [d] => { results := [.lit (.bool true)], args := [d] }
  | _ => none }
def fnExactCountIdempotentsRow : OpenClaim := { program := "ytkdkdkkimieieaa", sum := "ba97217e92709b523ed5d56ae3fc3f850bc619764df260910950913485cb9fcc", func := "loop.example/g01359/laws.FnExactCountIdempotents", spec := "fnExactCountIdempotents", apart := false }
def FnExactCountIdempotentsSaid : Prop := fnExactCountIdempotentsRow.holds Try.pinned (OpenSpec.ofChange fnExactCountIdempotentsSpec)

/-- ITS FALSE NEIGHBOUR: 'it returns false'. Refute it at one input. -/
def fnExactCountIdempotentsWrong : ChangeSpec := { name := "fnExactCountIdempotents", fn := fun _ => fun
  | [d] => { results := [.lit (.bool false)], args := [d] }
  | _ => none }
def FnExactCountIdempotentsWrongFalsely : Prop := fnExactCountIdempotentsRow.holds Try.pinned (OpenSpec.ofChange fnExactCountIdempotentsWrong)

/-- 'laws.FnExactCountByRank': WHATEVER THE INPUT: true; the input reads as it did. -/
def fnExactCountByRankSpec : ChangeSpec := { name := "fnExactCountByRank", fn := fun _ => fun
  | [d] => { results := [.lit (.bool true)], args := [d] }
  | _ => none }
def fnExactCountByRankRow : OpenClaim := { program := "ytkdkdkkimieieaa", sum := "ba97217e92709b523ed5d56ae3fc3f850bc619764df260910950913485cb9fcc", func := "loop.example/g01359/laws.FnExactCountByRank", spec := "fnExactCountByRank", apart := false }
def FnExactCountByRankSaid : Prop := fnExactCountByRankRow.holds Try.pinned (OpenSpec.ofChange fnExactCountByRankSpec)

/-- ITS FALSE NEIGHBOUR: 'it returns false'. Refute it at one input. -/
def fnExactCountByRankWrong : ChangeSpec := { name := "fnExactCountByRank", fn := fun _ => fun
  | [d] => { results := [.lit (.bool false)], args := [d] }
  | _ => none }
def FnExactCountByRankWrongFalsely : Prop := fnExactCountByRankRow.holds Try.pinned (OpenSpec.ofChange fnExactCountByRankWrong)

/-- 'laws.FnExactCountByFixed': WHATEVER THE INPUT: true; the input reads as it did. -/
def fnExactCountByFixedSpec : ChangeSpec := { name := "fnExactCountByFixed", fn := fun _ => fun
  | [d] => { results := [.lit (.bool true)], args := [d] }
  | _ => none }
def fnExactCountByFixedRow : OpenClaim := { program := "ytkdkdkkimieieaa", sum := "ba97217e92709b523ed5d56ae3fc3f850bc619764df260910950913485cb9fcc", func := "loop.example/g01359/laws.FnExactCountByFixed", spec := "fnExactCountByFixed", apart := false }
def FnExactCountByFixedSaid : Prop := fnExactCountByFixedRow.holds Try.pinned (OpenSpec.ofChange fnExactCountByFixedSpec)

/-- ITS FALSE NEIGHBOUR: 'it returns false'. Refute it at one input. -/
def fnExactCountByFixedWrong : ChangeSpec := { name := "fnExactCountByFixed", fn := fun _ => fun
  | [d] => { results := [.lit (.bool false)], args := [d] }
  | _ => none }
def FnExactCountByFixedWrongFalsely : Prop := fnExactCountByFixedRow.holds Try.pinned (OpenSpec.ofChange fnExactCountByFixedWrong)

/-- 'laws.FnExactNewDesk': WHATEVER THE INPUT: true; the input reads as it did. -/
def fnExactNewDeskSpec : ChangeSpec := { name := "fnExactNewDesk", fn := fun _ => fun
  | [] => { results := [.lit (.bool true)], args := [] }
  | _ => none }
def fnExactNewDeskRow : OpenClaim := { program := "ytkdkdkkimieieaa", sum := "ba97217e92709b523ed5d56ae3fc3f850bc619764df260910950913485cb9fcc", func := "loop.example/g01359/laws.FnExactNewDesk", spec := "fnExactNewDesk", apart := false }
def FnExactNewDeskSaid : Prop := fnExactNewDeskRow.holds Try.pinned (OpenSpec.ofChange fnExactNewDeskSpec)

/-- ITS FALSE NEIGHBOUR: 'it returns false'. Refute it at one input. -/
def fnExactNewDeskWrong : ChangeSpec := { name := "fnExactNewDesk", fn := fun _ => fun
  | [] => { results := [.lit (.bool false)], args := [] }
  | _ => none }
def FnExactNewDeskWrongFalsely : Prop := fnExactNewDeskRow.holds Try.pinned (OpenSpec.ofChange fnExactNewDeskWrong)

/-- 'laws.FnExactCountCommuting': WHATEVER THE INPUT: true; the input reads as it did. -/
def fnExactCountCommutingSpec : ChangeSpec := { name := "fnExactCountCommuting", fn := fun _ => fun
  | [d] => { results := [.lit (.bool true)], args := [d] }
  | _ => none }
def fnExactCountCommutingRow : OpenClaim := { program := "ytkdkdkkimieieaa", sum := "ba97217e92709b523ed5d56ae3fc3f850bc619764df260910950913485cb9fcc", func := "loop.example/g01359/laws.FnExactCountCommuting", spec := "fnExactCountCommuting", unfollowed := true, recurses := true, apart := false }
def FnExactCountCommutingSaid : Prop := fnExactCountCommutingRow.holds Try.pinned (OpenSpec.ofChange fnExactCountCommutingSpec)

/-- ITS FALSE NEIGHBOUR: 'it returns false'. Refute it at one input. -/
def fnExactCountCommutingWrong : ChangeSpec := { name := "fnExactCountCommuting", fn := fun _ => fun
  | [d] => { results := [.lit (.bool false)], args := [d] }
  | _ => none }
def FnExactCountCommutingWrongFalsely : Prop := fnExactCountCommutingRow.holds Try.pinned (OpenSpec.ofChange fnExactCountCommutingWrong)

/-- 'laws.FnExactIdentityOf': WHATEVER THE INPUT: true; the input reads as it did. -/
def fnExactIdentityOfSpec : ChangeSpec := { name := "fnExactIdentityOf", fn := fun _ => fun
  | [d] => { results := [.lit (.bool true)], args := [d] }
  | _ => none }
def fnExactIdentityOfRow : OpenClaim := { program := "ytkdkdkkimieieaa", sum := "ba97217e92709b523ed5d56ae3fc3f850bc619764df260910950913485cb9fcc", func := "loop.example/g01359/laws.FnExactIdentityOf", spec := "fnExactIdentityOf", unfollowed := true, recurses := true, apart := false }
def FnExactIdentityOfSaid : Prop := fnExactIdentityOfRow.holds Try.pinned (OpenSpec.ofChange fnExactIdentityOfSpec)

/-- ITS FALSE NEIGHBOUR: 'it returns false'. Refute it at one input. -/
def fnExactIdentityOfWrong : ChangeSpec := { name := "fnExactIdentityOf", fn := fun _ => fun
  | [d] => { results := [.lit (.bool false)], args := [d] }
  | _ => none }
def FnExactIdentityOfWrongFalsely : Prop := fnExactIdentityOfRow.holds Try.pinned (OpenSpec.ofChange fnExactIdentityOfWrong)

/-- 'laws.FnExactHeightsOf': WHATEVER THE INPUT: true; the input reads as it did. -/
def fnExactHeightsOfSpec : ChangeSpec := { name := "fnExactHeightsOf", fn := fun _ => fun
  | [d] => { results := [.lit (.bool true)], args := [d] }
  | _ => none }
def fnExactHeightsOfRow : OpenClaim := { program := "ytkdkdkkimieieaa", sum := "ba97217e92709b523ed5d56ae3fc3f850bc619764df260910950913485cb9fcc", func := "loop.example/g01359/laws.FnExactHeightsOf", spec := "fnExactHeightsOf", apart := false }
def FnExactHeightsOfSaid : Prop := fnExactHeightsOfRow.holds Try.pinned (OpenSpec.ofChange fnExactHeightsOfSpec)

/-- ITS FALSE NEIGHBOUR: 'it returns false'. Refute it at one input. -/
def fnExactHeightsOfWrong : ChangeSpec := { name := "fnExactHeightsOf", fn := fun _ => fun
  | [d] => { results := [.lit (.bool false)], args := [d] }
  | _ => none }
def FnExactHeightsOfWrongFalsely : Prop := fnExactHeightsOfRow.holds Try.pinned (OpenSpec.ofChange fnExactHeightsOfWrong)

/-- 'laws.FnExactBasinsOf': WHATEVER THE INPUT: true; the input reads as it did. -/
def fnExactBasinsOfSpec : ChangeSpec := { name := "fnExactBasinsOf", fn := fun _ => fun
  | [d] => { results := [.lit (.bool true)], args := [d] }
  | _ => none }
def fnExactBasinsOfRow : OpenClaim := { program := "ytkdkdkkimieieaa", sum := "ba97217e92709b523ed5d56ae3fc3f850bc619764df260910950913485cb9fcc", func := "loop.example/g01359/laws.FnExactBasinsOf", spec := "fnExactBasinsOf", apart := false }
def FnExactBasinsOfSaid : Prop := fnExactBasinsOfRow.holds Try.pinned (OpenSpec.ofChange fnExactBasinsOfSpec)

/-- ITS FALSE NEIGHBOUR: 'it returns false'. Refute it at one input. -/
def fnExactBasinsOfWrong : ChangeSpec := { name := "fnExactBasinsOf", fn := fun _ => fun
  | [d] => { results := [.lit (.bool false)], args := [d] }
  | _ => none }
def FnExactBasinsOfWrongFalsely : Prop := fnExactBasinsOfRow.holds Try.pinned (OpenSpec.ofChange fnExactBasinsOfWrong)

/-- 'laws.FnExactIdempotentNumbers': WHATEVER THE INPUT: true; the input reads as it did. -/
def fnExactIdempotentNumbersSpec : ChangeSpec := { name := "fnExactIdempotentNumbers", fn := fun _ => fun
  | [d] => { results := [.lit (.bool true)], args := [d] }
  | _ => none }
def fnExactIdempotentNumbersRow : OpenClaim := { program := "ytkdkdkkimieieaa", sum := "ba97217e92709b523ed5d56ae3fc3f850bc619764df260910950913485cb9fcc", func := "loop.example/g01359/laws.FnExactIdempotentNumbers", spec := "fnExactIdempotentNumbers", unfollowed := true, recurses := true, apart := false }
def FnExactIdempotentNumbersSaid : Prop := fnExactIdempotentNumbersRow.holds Try.pinned (OpenSpec.ofChange fnExactIdempotentNumbersSpec)

/-- ITS FALSE NEIGHBOUR: 'it returns false'. Refute it at one input. -/
def fnExactIdempotentNumbersWrong : ChangeSpec := { name := "fnExactIdempotentNumbers", fn := fun _ => fun
  | [d] => { results := [.lit (.bool false)], args := [d] }
  | _ => none }
def FnExactIdempotentNumbersWrongFalsely : Prop := fnExactIdempotentNumbersRow.holds Try.pinned (OpenSpec.ofChange fnExactIdempotentNumbersWrong)

/-- 'laws.FnExactOppositeTable': WHATEVER THE INPUT: true; the input reads as it did. -/
def fnExactOppositeTableSpec : ChangeSpec := { name := "fnExactOppositeTable", fn := fun _ => fun
  | [d] => { results := [.lit (.bool true)], args := [d] }
  | _ => none }
def fnExactOppositeTableRow : OpenClaim := { program := "ytkdkdkkimieieaa", sum := "ba97217e92709b523ed5d56ae3fc3f850bc619764df260910950913485cb9fcc", func := "loop.example/g01359/laws.FnExactOppositeTable", spec := "fnExactOppositeTable", unfollowed := true, recurses := true, apart := false }
def FnExactOppositeTableSaid : Prop := fnExactOppositeTableRow.holds Try.pinned (OpenSpec.ofChange fnExactOppositeTableSpec)

/-- ITS FALSE NEIGHBOUR: 'it returns false'. Refute it at one input. -/
def fnExactOppositeTableWrong : ChangeSpec := { name := "fnExactOppositeTable", fn := fun _ => fun
  | [d] => { results := [.lit (.bool false)], args := [d] }
  | _ => none }
def FnExactOppositeTableWrongFalsely : Prop := fnExactOppositeTableRow.holds Try.pinned (OpenSpec.ofChange fnExactOppositeTableWrong)

/-- 'laws.FnExactIsMonoidTable': WHATEVER THE INPUT: true; the input reads as it did. -/
def fnExactIsMonoidTableSpec : ChangeSpec := { name := "fnExactIsMonoidTable", fn := fun _ => fun
  | [d] => { results := [.lit (.bool true)], args := [d] }
  | _ => none }
def fnExactIsMonoidTableRow : OpenClaim := { program := "ytkdkdkkimieieaa", sum := "ba97217e92709b523ed5d56ae3fc3f850bc619764df260910950913485cb9fcc", func := "loop.example/g01359/laws.FnExactIsMonoidTable", spec := "fnExactIsMonoidTable", unfollowed := true, recurses := true, apart := false }
def FnExactIsMonoidTableSaid : Prop := fnExactIsMonoidTableRow.holds Try.pinned (OpenSpec.ofChange fnExactIsMonoidTableSpec)

/-- ITS FALSE NEIGHBOUR: 'it returns false'. Refute it at one input. -/
def fnExactIsMonoidTableWrong : ChangeSpec := { name := "fnExactIsMonoidTable", fn := fun _ => fun
  | [d] => { results := [.lit (.bool false)], args := [d] }
  | _ => none }
def FnExactIsMonoidTableWrongFalsely : Prop := fnExactIsMonoidTableRow.holds Try.pinned (OpenSpec.ofChange fnExactIsMonoidTableWrong)

/-- 'laws.FnExactProductTable': WHATEVER THE INPUT: true; the input reads as it did. -/
def fnExactProductTableSpec : ChangeSpec := { name := "fnExactProductTable", fn := fun _ => fun
  | [d1, d2] => { results := [.lit (.bool true)], args := [d1, d2] }
  | _ => none }
def fnExactProductTableRow : OpenClaim := { program := "ytkdkdkkimieieaa", sum := "ba97217e92709b523ed5d56ae3fc3f850bc619764df260910950913485cb9fcc", func := "loop.example/g01359/laws.FnExactProductTable", spec := "fnExactProductTable", unfollowed := true, recurses := true, apart := false }
def FnExactProductTableSaid : Prop := fnExactProductTableRow.holds Try.pinned (OpenSpec.ofChange fnExactProductTableSpec)

/-- ITS FALSE NEIGHBOUR: 'it returns false'. Refute it at one input. -/
def fnExactProductTableWrong : ChangeSpec := { name := "fnExactProductTable", fn := fun _ => fun
  | [d1, d2] => { results := [.lit (.bool false)], args := [d1, d2] }
  | _ => none }
def FnExactProductTableWrongFalsely : Prop := fnExactProductTableRow.holds Try.pinned (OpenSpec.ofChange fnExactProductTableWrong)

/- THE SECOND FORM. 'bulk': how many values and letters a reading holds, each counted each time it is reached (what is shared counts as often as it is met; a slice's spare places count too). A statement '..UptoSaid' is the law's where the arguments, and the package variables that the reading takes, are together of bulk at most 1048576: NARROWER than '..Said'. Prove '..Said' where nothing that the law and all that it calls make is longer than what came in: it says more and counts as full. Else prove '..UptoSaid'. A law counts once. -/
mutual
def uptoBulk {H : Type} : DataW H → Nat
  | .lit (.string bytes) => bytes.length + 1
  | .lit _ => 1
  | .nil => 1
  | .ptr d => uptoBulk d + 1
  | .slice elems spare => uptoBulkAll elems + uptoBulkAll spare + 1
  | .agg parts => uptoBulkAll parts + 1
  | .iface _ d => uptoBulk d + 1
  | .map entries => uptoBulkEntries entries + 1
  | .held _ => 1
def uptoBulkAll {H : Type} : List (DataW H) → Nat
  | [] => 0
  | d :: r => uptoBulk d + uptoBulkAll r
def uptoBulkEntries {H : Type} : List (Lit × DataW H) → Nat
  | [] => 0
  | x :: r => uptoBulkEntry x + uptoBulkEntries r
def uptoBulkEntry {H : Type} : Lit × DataW H → Nat
  | (.string bytes, d) => bytes.length + uptoBulk d + 1
  | (_, d) => uptoBulk d + 1
 end
def uptoSmall : (H : Type) → List (DataW H) → Bool := fun _ ds => decide (uptoBulkAll ds ≤ 1048576)
def OpenSpec.upto (s : _root_.Go.ChangeSpec) : _root_.Go.OpenSpec := { _root_.Go.OpenSpec.ofChange s with cond := some uptoSmall }

/-- 'laws.FnExactCountIdempotents', WHERE WHAT IT READS IS OF BULK AT MOST 1048576: true; the input reads as it did. -/
def fnExactCountIdempotentsUptoRow : OpenClaim := { program := "ytkdkdkkimieieaa", sum := "ba97217e92709b523ed5d56ae3fc3f850bc619764df260910950913485cb9fcc", func := "loop.example/g01359/laws.FnExactCountIdempotents", spec := "fnExactCountIdempotents", apart := false, narrowed := true }
def FnExactCountIdempotentsUptoSaid : Prop := fnExactCountIdempotentsUptoRow.holds Try.pinned (OpenSpec.upto fnExactCountIdempotentsSpec)

/-- 'laws.FnExactCountByRank', WHERE WHAT IT READS IS OF BULK AT MOST 1048576: true; the input reads as it did. -/
def fnExactCountByRankUptoRow : OpenClaim := { program := "ytkdkdkkimieieaa", sum := "ba97217e92709b523ed5d56ae3fc3f850bc619764df260910950913485cb9fcc", func := "loop.example/g01359/laws.FnExactCountByRank", spec := "fnExactCountByRank", apart := false, narrowed := true }
def FnExactCountByRankUptoSaid : Prop := fnExactCountByRankUptoRow.holds Try.pinned (OpenSpec.upto fnExactCountByRankSpec)

/-- 'laws.FnExactCountByFixed', WHERE WHAT IT READS IS OF BULK AT MOST 1048576: true; the input reads as it did. -/
def fnExactCountByFixedUptoRow : OpenClaim := { program := "ytkdkdkkimieieaa", sum := "ba97217e92709b523ed5d56ae3fc3f850bc619764df260910950913485cb9fcc", func := "loop.example/g01359/laws.FnExactCountByFixed", spec := "fnExactCountByFixed", apart := false, narrowed := true }
def FnExactCountByFixedUptoSaid : Prop := fnExactCountByFixedUptoRow.holds Try.pinned (OpenSpec.upto fnExactCountByFixedSpec)

/-- 'laws.FnExactNewDesk', WHERE WHAT IT READS IS OF BULK AT MOST 1048576: true; the input reads as it did. -/
def fnExactNewDeskUptoRow : OpenClaim := { program := "ytkdkdkkimieieaa", sum := "ba97217e92709b523ed5d56ae3fc3f850bc619764df260910950913485cb9fcc", func := "loop.example/g01359/laws.FnExactNewDesk", spec := "fnExactNewDesk", apart := false, narrowed := true }
def FnExactNewDeskUptoSaid : Prop := fnExactNewDeskUptoRow.holds Try.pinned (OpenSpec.upto fnExactNewDeskSpec)

/-- 'laws.FnExactCountCommuting', WHERE WHAT IT READS IS OF BULK AT MOST 1048576: true; the input reads as it did. -/
def fnExactCountCommutingUptoRow : OpenClaim := { program := "ytkdkdkkimieieaa", sum := "ba97217e92709b523ed5d56ae3fc3f850bc619764df260910950913485cb9fcc", func := "loop.example/g01359/laws.FnExactCountCommuting", spec := "fnExactCountCommuting", unfollowed := true, recurses := true, apart := false, narrowed := true }
def FnExactCountCommutingUptoSaid : Prop := fnExactCountCommutingUptoRow.holds Try.pinned (OpenSpec.upto fnExactCountCommutingSpec)

/-- 'laws.FnExactIdentityOf', WHERE WHAT IT READS IS OF BULK AT MOST 1048576: true; the input reads as it did. -/
def fnExactIdentityOfUptoRow : OpenClaim := { program := "ytkdkdkkimieieaa", sum := "ba97217e92709b523ed5d56ae3fc3f850bc619764df260910950913485cb9fcc", func := "loop.example/g01359/laws.FnExactIdentityOf", spec := "fnExactIdentityOf", unfollowed := true, recurses := true, apart := false, narrowed := true }
def FnExactIdentityOfUptoSaid : Prop := fnExactIdentityOfUptoRow.holds Try.pinned (OpenSpec.upto fnExactIdentityOfSpec)

/-- 'laws.FnExactHeightsOf', WHERE WHAT IT READS IS OF BULK AT MOST 1048576: true; the input reads as it did. -/
def fnExactHeightsOfUptoRow : OpenClaim := { program := "ytkdkdkkimieieaa", sum := "ba97217e92709b523ed5d56ae3fc3f850bc619764df260910950913485cb9fcc", func := "loop.example/g01359/laws.FnExactHeightsOf", spec := "fnExactHeightsOf", apart := false, narrowed := true }
def FnExactHeightsOfUptoSaid : Prop := fnExactHeightsOfUptoRow.holds Try.pinned (OpenSpec.upto fnExactHeightsOfSpec)

/-- 'laws.FnExactBasinsOf', WHERE WHAT IT READS IS OF BULK AT MOST 1048576: true; the input reads as it did. -/
def fnExactBasinsOfUptoRow : OpenClaim := { program := "ytkdkdkkimieieaa", sum := "ba97217e92709b523ed5d56ae3fc3f850bc619764df260910950913485cb9fcc", func := "loop.example/g01359/laws.FnExactBasinsOf", spec := "fnExactBasinsOf", apart := false, narrowed := true }
def FnExactBasinsOfUptoSaid : Prop := fnExactBasinsOfUptoRow.holds Try.pinned (OpenSpec.upto fnExactBasinsOfSpec)

/-- 'laws.FnExactIdempotentNumbers', WHERE WHAT IT READS IS OF BULK AT MOST 1048576: true; the input reads as it did. -/
def fnExactIdempotentNumbersUptoRow : OpenClaim := { program := "ytkdkdkkimieieaa", sum := "ba97217e92709b523ed5d56ae3fc3f850bc619764df260910950913485cb9fcc", func := "loop.example/g01359/laws.FnExactIdempotentNumbers", spec := "fnExactIdempotentNumbers", unfollowed := true, recurses := true, apart := false, narrowed := true }
def FnExactIdempotentNumbersUptoSaid : Prop := fnExactIdempotentNumbersUptoRow.holds Try.pinned (OpenSpec.upto fnExactIdempotentNumbersSpec)

/-- 'laws.FnExactOppositeTable', WHERE WHAT IT READS IS OF BULK AT MOST 1048576: true; the input reads as it did. -/
def fnExactOppositeTableUptoRow : OpenClaim := { program := "ytkdkdkkimieieaa", sum := "ba97217e92709b523ed5d56ae3fc3f850bc619764df260910950913485cb9fcc", func := "loop.example/g01359/laws.FnExactOppositeTable", spec := "fnExactOppositeTable", unfollowed := true, recurses := true, apart := false, narrowed := true }
def FnExactOppositeTableUptoSaid : Prop := fnExactOppositeTableUptoRow.holds Try.pinned (OpenSpec.upto fnExactOppositeTableSpec)

/-- 'laws.FnExactIsMonoidTable', WHERE WHAT IT READS IS OF BULK AT MOST 1048576: true; the input reads as it did. -/
def fnExactIsMonoidTableUptoRow : OpenClaim := { program := "ytkdkdkkimieieaa", sum := "ba97217e92709b523ed5d56ae3fc3f850bc619764df260910950913485cb9fcc", func := "loop.example/g01359/laws.FnExactIsMonoidTable", spec := "fnExactIsMonoidTable", unfollowed := true, recurses := true, apart := false, narrowed := true }
def FnExactIsMonoidTableUptoSaid : Prop := fnExactIsMonoidTableUptoRow.holds Try.pinned (OpenSpec.upto fnExactIsMonoidTableSpec)

/-- 'laws.FnExactProductTable', WHERE WHAT IT READS IS OF BULK AT MOST 1048576: true; the input reads as it did. -/
def fnExactProductTableUptoRow : OpenClaim := { program := "ytkdkdkkimieieaa", sum := "ba97217e92709b523ed5d56ae3fc3f850bc619764df260910950913485cb9fcc", func := "loop.example/g01359/laws.FnExactProductTable", spec := "fnExactProductTable", unfollowed := true, recurses := true, apart := false, narrowed := true }
def FnExactProductTableUptoSaid : Prop := fnExactProductTableUptoRow.holds Try.pinned (OpenSpec.upto fnExactProductTableSpec)

end Rows
end Go.Proofs.Ytkdkdkkimieieaa
