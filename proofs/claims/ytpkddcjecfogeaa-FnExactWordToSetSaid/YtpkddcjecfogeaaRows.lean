/-
  No cell of these rows narrows 'for every input' (looked for: loops, veiled, ifaces, maps, wideKeys, modest, calm, conditions, laid).
  DERIVED. THE GIVEN ROWS OF THIS SEAT. 11 by the template 'for every input the law returns true; each argument reads behind the call as it read before'; 0 by the template 'total and deterministic' (their statements: YtpkddcjecfogeaaTotals.lean).
  GIVEN WITH THE SEED: the statements are not yours to turn. If you find one false, say at which input.
  Laid BY PROGRAM, IN A SANDBOX (cutbox-rows.mjs): the forced cells as the released guide's own fill.sh prints them over the translation cbee6efb774bd77b… (all of the seat's roots in one cut). By AI agents, Wed Nov 11 2026. No macro, syntax, notation, axiom, sorry.
-/
import Derived.Test.YtpkddcjecfogeaaChecked
import GoSem.Claim
import GoSem.ClaimJoined
import GoSem.ClaimMapViews
import Derived.JoinedTies
import Derived.KernelRfl
namespace Go.Proofs.Ytpkddcjecfogeaa
/- THE CELL 'sum', in the pinned program and in every row, IS THE sha256 OF THE DUMP (.gsa) THAT YtpkddcjecfogeaaProg.lean LOADS. Nothing in Lean hashes anything: it is a label: what it is worth is what the hold of that sum in a sandbox is worth. -/
noncomputable def Try.pinned : Pinned := { name := "ytpkddcjecfogeaa", sum := "cbee6efb774bd77bb1f3dd082ab0521b9cedae744e3ae88e6b1728e404f51f30", checked := Try.checked }
namespace Rows
def none {H : Type} : Left H := { results := [], args := [] }

/-- 'laws.FnExactCycleType': WHATEVER THE INPUT: true; the input reads as it did. -/
def fnExactCycleTypeSpec : ChangeSpec := { name := "fnExactCycleType", fn := fun _ => fun
  | [d] => { results := [.lit (.bool true)], args := [d] }
  | _ => none }
def fnExactCycleTypeRow : OpenClaim := { program := "ytpkddcjecfogeaa", sum := "cbee6efb774bd77bb1f3dd082ab0521b9cedae744e3ae88e6b1728e404f51f30", func := "loop.example/g01359/laws.FnExactCycleType", spec := "fnExactCycleType", unfollowed := true, recurses := true, apart := false }
def FnExactCycleTypeSaid : Prop := fnExactCycleTypeRow.holds Try.pinned (OpenSpec.ofChange fnExactCycleTypeSpec)

/-- ITS FALSE NEIGHBOUR: 'it returns false'. Refute it at one input. -/
def fnExactCycleTypeWrong : ChangeSpec := { name := "fnExactCycleType", fn := fun _ => fun
  | [d] => { results := [.lit (.bool false)], args := [d] }
  | _ => none }
def FnExactCycleTypeWrongFalsely : Prop := fnExactCycleTypeRow.holds Try.pinned (OpenSpec.ofChange fnExactCycleTypeWrong)

/-- 'laws.FnExactCountShapes': WHATEVER THE INPUT: true; the input reads as it did. -/
def fnExactCountShapesSpec : ChangeSpec := { name := "fnExactCountShapes", fn := fun _ => fun
  | [d] => { results := [.lit (.bool true)], args := [d] }
  | _ => none }
def fnExactCountShapesRow : OpenClaim := { program := "ytpkddcjecfogeaa", sum := "cbee6efb774bd77bb1f3dd082ab0521b9cedae744e3ae88e6b1728e404f51f30", func := "loop.example/g01359/laws.FnExactCountShapes", spec := "fnExactCountShapes", unfollowed := true, recurses := true, apart := false }
def FnExactCountShapesSaid : Prop := fnExactCountShapesRow.holds Try.pinned (OpenSpec.ofChange fnExactCountShapesSpec)

/-- ITS FALSE NEIGHBOUR: 'it returns false'. Refute it at one input. -/
def fnExactCountShapesWrong : ChangeSpec := { name := "fnExactCountShapes", fn := fun _ => fun
  | [d] => { results := [.lit (.bool false)], args := [d] }
  | _ => none }
def FnExactCountShapesWrongFalsely : Prop := fnExactCountShapesRow.holds Try.pinned (OpenSpec.ofChange fnExactCountShapesWrong)

/-- 'laws.FnExactLeastForm': WHATEVER THE INPUT: true; the input reads as it did. -/
def fnExactLeastFormSpec : ChangeSpec := { name := "fnExactLeastForm", fn := fun _ => fun
  | [d] => { results := [.lit (.bool true)], args := [d] }
  | _ => none }
def fnExactLeastFormRow : OpenClaim := { program := "ytpkddcjecfogeaa", sum := "cbee6efb774bd77bb1f3dd082ab0521b9cedae744e3ae88e6b1728e404f51f30", func := "loop.example/g01359/laws.FnExactLeastForm", spec := "fnExactLeastForm", unfollowed := true, recurses := true, apart := false }
def FnExactLeastFormSaid : Prop := fnExactLeastFormRow.holds Try.pinned (OpenSpec.ofChange fnExactLeastFormSpec)

/-- ITS FALSE NEIGHBOUR: 'it returns false'. Refute it at one input. -/
def fnExactLeastFormWrong : ChangeSpec := { name := "fnExactLeastForm", fn := fun _ => fun
  | [d] => { results := [.lit (.bool false)], args := [d] }
  | _ => none }
def FnExactLeastFormWrongFalsely : Prop := fnExactLeastFormRow.holds Try.pinned (OpenSpec.ofChange fnExactLeastFormWrong)

/-- 'laws.FnExactAreSameShape': WHATEVER THE INPUT: true; the input reads as it did. -/
def fnExactAreSameShapeSpec : ChangeSpec := { name := "fnExactAreSameShape", fn := fun _ => fun
  | [d1, d2] => { results := [.lit (.bool true)], args := [d1, d2] }
  | _ => none }
def fnExactAreSameShapeRow : OpenClaim := { program := "ytpkddcjecfogeaa", sum := "cbee6efb774bd77bb1f3dd082ab0521b9cedae744e3ae88e6b1728e404f51f30", func := "loop.example/g01359/laws.FnExactAreSameShape", spec := "fnExactAreSameShape", unfollowed := true, recurses := true, apart := false }
def FnExactAreSameShapeSaid : Prop := fnExactAreSameShapeRow.holds Try.pinned (OpenSpec.ofChange fnExactAreSameShapeSpec)

/-- ITS FALSE NEIGHBOUR: 'it returns false'. Refute it at one input. -/
def fnExactAreSameShapeWrong : ChangeSpec := { name := "fnExactAreSameShape", fn := fun _ => fun
  | [d1, d2] => { results := [.lit (.bool false)], args := [d1, d2] }
  | _ => none }
def FnExactAreSameShapeWrongFalsely : Prop := fnExactAreSameShapeRow.holds Try.pinned (OpenSpec.ofChange fnExactAreSameShapeWrong)

/-- 'laws.FnExactIsTransitive': WHATEVER THE INPUT: true; the input reads as it did. -/
def fnExactIsTransitiveSpec : ChangeSpec := { name := "fnExactIsTransitive", fn := fun _ => fun
  | [d] => { results := [.lit (.bool true)], args := [d] }
  | _ => none }
def fnExactIsTransitiveRow : OpenClaim := { program := "ytpkddcjecfogeaa", sum := "cbee6efb774bd77bb1f3dd082ab0521b9cedae744e3ae88e6b1728e404f51f30", func := "loop.example/g01359/laws.FnExactIsTransitive", spec := "fnExactIsTransitive", unfollowed := true, recurses := true, apart := false }
def FnExactIsTransitiveSaid : Prop := fnExactIsTransitiveRow.holds Try.pinned (OpenSpec.ofChange fnExactIsTransitiveSpec)

/-- ITS FALSE NEIGHBOUR: 'it returns false'. Refute it at one input. -/
def fnExactIsTransitiveWrong : ChangeSpec := { name := "fnExactIsTransitive", fn := fun _ => fun
  | [d] => { results := [.lit (.bool false)], args := [d] }
  | _ => none }
def FnExactIsTransitiveWrongFalsely : Prop := fnExactIsTransitiveRow.holds Try.pinned (OpenSpec.ofChange fnExactIsTransitiveWrong)

/-- 'laws.FnExactOrbitOf': WHATEVER THE INPUT: true; the input reads as it did. -/
def fnExactOrbitOfSpec : ChangeSpec := { name := "fnExactOrbitOf", fn := fun _ => fun
  | [d1, d2] => { results := [.lit (.bool true)], args := [d1, d2] }
  | _ => none }
def fnExactOrbitOfRow : OpenClaim := { program := "ytpkddcjecfogeaa", sum := "cbee6efb774bd77bb1f3dd082ab0521b9cedae744e3ae88e6b1728e404f51f30", func := "loop.example/g01359/laws.FnExactOrbitOf", spec := "fnExactOrbitOf", unfollowed := true, recurses := true, apart := false }
def FnExactOrbitOfSaid : Prop := fnExactOrbitOfRow.holds Try.pinned (OpenSpec.ofChange fnExactOrbitOfSpec)

/-- ITS FALSE NEIGHBOUR: 'it returns false'. Refute it at one input. -/
def fnExactOrbitOfWrong : ChangeSpec := { name := "fnExactOrbitOf", fn := fun _ => fun
  | [d1, d2] => { results := [.lit (.bool false)], args := [d1, d2] }
  | _ => none }
def FnExactOrbitOfWrongFalsely : Prop := fnExactOrbitOfRow.holds Try.pinned (OpenSpec.ofChange fnExactOrbitOfWrong)

/-- 'laws.FnExactWordToSet': WHATEVER THE INPUT: true; the input reads as it did. -/
def fnExactWordToSetSpec : ChangeSpec := { name := "fnExactWordToSet", fn := fun _ => fun
  | [d1, d2, d3] => { results := [.lit (.bool true)], args := [d1, d2, d3] }
  | _ => none }
def fnExactWordToSetRow : OpenClaim := { program := "ytpkddcjecfogeaa", sum := "cbee6efb774bd77bb1f3dd082ab0521b9cedae744e3ae88e6b1728e404f51f30", func := "loop.example/g01359/laws.FnExactWordToSet", spec := "fnExactWordToSet", unfollowed := true, recurses := true, apart := false }
def FnExactWordToSetSaid : Prop := fnExactWordToSetRow.holds Try.pinned (OpenSpec.ofChange fnExactWordToSetSpec)

/-- ITS FALSE NEIGHBOUR: 'it returns false'. Refute it at one input. -/
def fnExactWordToSetWrong : ChangeSpec := { name := "fnExactWordToSet", fn := fun _ => fun
  | [d1, d2, d3] => { results := [.lit (.bool false)], args := [d1, d2, d3] }
  | _ => none }
def FnExactWordToSetWrongFalsely : Prop := fnExactWordToSetRow.holds Try.pinned (OpenSpec.ofChange fnExactWordToSetWrong)

/-- 'laws.FnExactStrongParts': WHATEVER THE INPUT: true; the input reads as it did. -/
def fnExactStrongPartsSpec : ChangeSpec := { name := "fnExactStrongParts", fn := fun _ => fun
  | [d] => { results := [.lit (.bool true)], args := [d] }
  | _ => none }
def fnExactStrongPartsRow : OpenClaim := { program := "ytpkddcjecfogeaa", sum := "cbee6efb774bd77bb1f3dd082ab0521b9cedae744e3ae88e6b1728e404f51f30", func := "loop.example/g01359/laws.FnExactStrongParts", spec := "fnExactStrongParts", unfollowed := true, recurses := true, apart := false }
def FnExactStrongPartsSaid : Prop := fnExactStrongPartsRow.holds Try.pinned (OpenSpec.ofChange fnExactStrongPartsSpec)

/-- ITS FALSE NEIGHBOUR: 'it returns false'. Refute it at one input. -/
def fnExactStrongPartsWrong : ChangeSpec := { name := "fnExactStrongParts", fn := fun _ => fun
  | [d] => { results := [.lit (.bool false)], args := [d] }
  | _ => none }
def FnExactStrongPartsWrongFalsely : Prop := fnExactStrongPartsRow.holds Try.pinned (OpenSpec.ofChange fnExactStrongPartsWrong)

/-- 'laws.FnExactIsPrimitive': WHATEVER THE INPUT: true; the input reads as it did. -/
def fnExactIsPrimitiveSpec : ChangeSpec := { name := "fnExactIsPrimitive", fn := fun _ => fun
  | [d] => { results := [.lit (.bool true)], args := [d] }
  | _ => none }
def fnExactIsPrimitiveRow : OpenClaim := { program := "ytpkddcjecfogeaa", sum := "cbee6efb774bd77bb1f3dd082ab0521b9cedae744e3ae88e6b1728e404f51f30", func := "loop.example/g01359/laws.FnExactIsPrimitive", spec := "fnExactIsPrimitive", unfollowed := true, recurses := true, apart := false }
def FnExactIsPrimitiveSaid : Prop := fnExactIsPrimitiveRow.holds Try.pinned (OpenSpec.ofChange fnExactIsPrimitiveSpec)

/-- ITS FALSE NEIGHBOUR: 'it returns false'. Refute it at one input. -/
def fnExactIsPrimitiveWrong : ChangeSpec := { name := "fnExactIsPrimitive", fn := fun _ => fun
  | [d] => { results := [.lit (.bool false)], args := [d] }
  | _ => none }
def FnExactIsPrimitiveWrongFalsely : Prop := fnExactIsPrimitiveRow.holds Try.pinned (OpenSpec.ofChange fnExactIsPrimitiveWrong)

/-- 'laws.FnExactTableOf': WHATEVER THE INPUT: true; the input reads as it did. -/
def fnExactTableOfSpec : ChangeSpec := { name := "fnExactTableOf", fn := fun _ => fun
  | [d] => { results := [.lit (.bool true)], args := [d] }
  | _ => none }
def fnExactTableOfRow : OpenClaim := { program := "ytpkddcjecfogeaa", sum := "cbee6efb774bd77bb1f3dd082ab0521b9cedae744e3ae88e6b1728e404f51f30", func := "loop.example/g01359/laws.FnExactTableOf", spec := "fnExactTableOf", unfollowed := true, recurses := true, apart := false }
def FnExactTableOfSaid : Prop := fnExactTableOfRow.holds Try.pinned (OpenSpec.ofChange fnExactTableOfSpec)

/-- ITS FALSE NEIGHBOUR: 'it returns false'. Refute it at one input. -/
def fnExactTableOfWrong : ChangeSpec := { name := "fnExactTableOf", fn := fun _ => fun
  | [d] => { results := [.lit (.bool false)], args := [d] }
  | _ => none }
def FnExactTableOfWrongFalsely : Prop := fnExactTableOfRow.holds Try.pinned (OpenSpec.ofChange fnExactTableOfWrong)

/-- 'laws.FnExactInvariantSets': WHATEVER THE INPUT: true; the input reads as it did. -/
def fnExactInvariantSetsSpec : ChangeSpec := { name := "fnExactInvariantSets", fn := fun _ => fun
  | [d] => { results := [.lit (.bool true)], args := [d] }
  | _ => none }
def fnExactInvariantSetsRow : OpenClaim := { program := "ytpkddcjecfogeaa", sum := "cbee6efb774bd77bb1f3dd082ab0521b9cedae744e3ae88e6b1728e404f51f30", func := "loop.example/g01359/laws.FnExactInvariantSets", spec := "fnExactInvariantSets", unfollowed := true, recurses := true, apart := false }
def FnExactInvariantSetsSaid : Prop := fnExactInvariantSetsRow.holds Try.pinned (OpenSpec.ofChange fnExactInvariantSetsSpec)

/-- ITS FALSE NEIGHBOUR: 'it returns false'. Refute it at one input. -/
def fnExactInvariantSetsWrong : ChangeSpec := { name := "fnExactInvariantSets", fn := fun _ => fun
  | [d] => { results := [.lit (.bool false)], args := [d] }
  | _ => none }
def FnExactInvariantSetsWrongFalsely : Prop := fnExactInvariantSetsRow.holds Try.pinned (OpenSpec.ofChange fnExactInvariantSetsWrong)

/- THE SECOND FORM. 'bulk': how many values and letters a reading holds, each counted each time it is reached (what is shared counts as often as it is met; a slice's spare places count too). A statement '..UptoSaid' is the law's where the arguments, and the package variables that the reading takes, are together of bulk at most 1048576: NARROWER than '..Said'. Prove '..Said' where nothing that the law and all that it calls make is longer than what came in: it says more and counts as full. Else prove '..UptoSaid'. A law counts once. -/
mutual
def uptoBulk {H : Type} : DataW H → Nat
  | .lit (.string bytes) => bytes.length + 1
  | .lit _ => 1
  | .nil => 1
  | .ptr d => uptoBulk d + 1
  | .slice elems spare => uptoBulkAll elems + uptoBulkAll spare + 1
  | .agg parts => uptoBulkAll parts + 1
  | .iface _ d => uptoBulk d + 1
  | .map entries => uptoBulkEntries entries + 1
  | .held _ => 1
def uptoBulkAll {H : Type} : List (DataW H) → Nat
  | [] => 0
  | d :: r => uptoBulk d + uptoBulkAll r
def uptoBulkEntries {H : Type} : List (Lit × DataW H) → Nat
  | [] => 0
  | x :: r => uptoBulkEntry x + uptoBulkEntries r
def uptoBulkEntry {H : Type} : Lit × DataW H → Nat
  | (.string bytes, d) => bytes.length + uptoBulk d + 1
  | (_, d) => uptoBulk d + 1
 end
def uptoSmall : (H : Type) → List (DataW H) → Bool := fun _ ds => decide (uptoBulkAll ds ≤ 1048576)
def OpenSpec.upto (s : _root_.Go.ChangeSpec) : _root_.Go.OpenSpec := { _root_.Go.OpenSpec.ofChange s with cond := some uptoSmall }

/-- 'laws.FnExactCycleType', WHERE WHAT IT READS IS OF BULK AT MOST 1048576: true; the input reads as it did. -/
def fnExactCycleTypeUptoRow : OpenClaim := { program := "ytpkddcjecfogeaa", sum := "cbee6efb774bd77bb1f3dd082ab0521b9cedae744e3ae88e6b1728e404f51f30", func := "loop.example/g01359/laws.FnExactCycleType", spec := "fnExactCycleType", unfollowed := true, recurses := true, apart := false, narrowed := true }
def FnExactCycleTypeUptoSaid : Prop := fnExactCycleTypeUptoRow.holds Try.pinned (OpenSpec.upto fnExactCycleTypeSpec)

/-- 'laws.FnExactCountShapes', WHERE WHAT IT READS IS OF BULK AT MOST 1048576: true; the input reads as it did. -/
def fnExactCountShapesUptoRow : OpenClaim := { program := "ytpkddcjecfogeaa", sum := "cbee6efb774bd77bb1f3dd082ab0521b9cedae744e3ae88e6b1728e404f51f30", func := "loop.example/g01359/laws.FnExactCountShapes", spec := "fnExactCountShapes", unfollowed := true, recurses := true, apart := false, narrowed := true }
def FnExactCountShapesUptoSaid : Prop := fnExactCountShapesUptoRow.holds Try.pinned (OpenSpec.upto fnExactCountShapesSpec)

/-- 'laws.FnExactLeastForm', WHERE WHAT IT READS IS OF BULK AT MOST 1048576: true; the input reads as it did. -/
def fnExactLeastFormUptoRow : OpenClaim := { program := "ytpkddcjecfogeaa", sum := "cbee6efb774bd77bb1f3dd082ab0521b9cedae744e3ae88e6b1728e404f51f30", func := "loop.example/g01359/laws.FnExactLeastForm", spec := "fnExactLeastForm", unfollowed := true, recurses := true, apart := false, narrowed := true }
def FnExactLeastFormUptoSaid : Prop := fnExactLeastFormUptoRow.holds Try.pinned (OpenSpec.upto fnExactLeastFormSpec)

/-- 'laws.FnExactAreSameShape', WHERE WHAT IT READS IS OF BULK AT MOST 1048576: true; the input reads as it did. -/
def fnExactAreSameShapeUptoRow : OpenClaim := { program := "ytpkddcjecfogeaa", sum := "cbee6efb774bd77bb1f3dd082ab0521b9cedae744e3ae88e6b1728e404f51f30", func := "loop.example/g01359/laws.FnExactAreSameShape", spec := "fnExactAreSameShape", unfollowed := true, recurses := true, apart := false, narrowed := true }
def FnExactAreSameShapeUptoSaid : Prop := fnExactAreSameShapeUptoRow.holds Try.pinned (OpenSpec.upto fnExactAreSameShapeSpec)

/-- 'laws.FnExactIsTransitive', WHERE WHAT IT READS IS OF BULK AT MOST 1048576: true; the input reads as it did. -/
def fnExactIsTransitiveUptoRow : OpenClaim := { program := "ytpkddcjecfogeaa", sum := "cbee6efb774bd77bb1f3dd082ab0521b9cedae744e3ae88e6b1728e404f51f30", func := "loop.example/g01359/laws.FnExactIsTransitive", spec := "fnExactIsTransitive", unfollowed := true, recurses := true, apart := false, narrowed := true }
def FnExactIsTransitiveUptoSaid : Prop := fnExactIsTransitiveUptoRow.holds Try.pinned (OpenSpec.upto fnExactIsTransitiveSpec)

/-- 'laws.FnExactOrbitOf', WHERE WHAT IT READS IS OF BULK AT MOST 1048576: true; the input reads as it did. -/
def fnExactOrbitOfUptoRow : OpenClaim := { program := "ytpkddcjecfogeaa", sum := "cbee6efb774bd77bb1f3dd082ab0521b9cedae744e3ae88e6b1728e404f51f30", func := "loop.example/g01359/laws.FnExactOrbitOf", spec := "fnExactOrbitOf", unfollowed := true, recurses := true, apart := false, narrowed := true }
def FnExactOrbitOfUptoSaid : Prop := fnExactOrbitOfUptoRow.holds Try.pinned (OpenSpec.upto fnExactOrbitOfSpec)

/-- 'laws.FnExactWordToSet', WHERE WHAT IT READS IS OF BULK AT MOST 1048576: true; the input reads as it did. -/
def fnExactWordToSetUptoRow : OpenClaim := { program := "ytpkddcjecfogeaa", sum := "cbee6efb774bd77bb1f3dd082ab0521b9cedae744e3ae88e6b1728e404f51f30", func := "loop.example/g01359/laws.FnExactWordToSet", spec := "fnExactWordToSet", unfollowed := true, recurses := true, apart := false, narrowed := true }
def FnExactWordToSetUptoSaid : Prop := fnExactWordToSetUptoRow.holds Try.pinned (OpenSpec.upto fnExactWordToSetSpec)

/-- 'laws.FnExactStrongParts', WHERE WHAT IT READS IS OF BULK AT MOST 1048576: true; the input reads as it did. -/
def fnExactStrongPartsUptoRow : OpenClaim := { program := "ytpkddcjecfogeaa", sum := "cbee6efb774bd77bb1f3dd082ab0521b9cedae744e3ae88e6b1728e404f51f30", func := "loop.example/g01359/laws.FnExactStrongParts", spec := "fnExactStrongParts", unfollowed := true, recurses := true, apart := false, narrowed := true }
def FnExactStrongPartsUptoSaid : Prop := fnExactStrongPartsUptoRow.holds Try.pinned (OpenSpec.upto fnExactStrongPartsSpec)

/-- 'laws.FnExactIsPrimitive', WHERE WHAT IT READS IS OF BULK AT MOST 1048576: true; the input reads as it did. -/
def fnExactIsPrimitiveUptoRow : OpenClaim := { program := "ytpkddcjecfogeaa", sum := "cbee6efb774bd77bb1f3dd082ab0521b9cedae744e3ae88e6b1728e404f51f30", func := "loop.example/g01359/laws.FnExactIsPrimitive", spec := "fnExactIsPrimitive", unfollowed := true, recurses := true, apart := false, narrowed := true }
def FnExactIsPrimitiveUptoSaid : Prop := fnExactIsPrimitiveUptoRow.holds Try.pinned (OpenSpec.upto fnExactIsPrimitiveSpec)

/-- 'laws.FnExactTableOf', WHERE WHAT IT READS IS OF BULK AT MOST 1048576: true; the input reads as it did. -/
def fnExactTableOfUptoRow : OpenClaim := { program := "ytpkddcjecfogeaa", sum := "cbee6efb774bd77bb1f3dd082ab0521b9cedae744e3ae88e6b1728e404f51f30", func := "loop.example/g01359/laws.FnExactTableOf", spec := "fnExactTableOf", unfollowed := true, recurses := true, apart := false, narrowed := true }
def FnExactTableOfUptoSaid : Prop := fnExactTableOfUptoRow.holds Try.pinned (OpenSpec.upto fnExactTableOfSpec)

/-- 'laws.FnExactInvariantSets', WHERE WHAT IT READS IS OF BULK AT MOST 1048576: true; the input reads as it did. -/
def fnExactInvariantSetsUptoRow : OpenClaim := { program := "ytpkddcjecfogeaa", sum := "cbee6efb774bd77bb1f3dd082ab0521b9cedae744e3ae88e6b1728e404f51f30", func := "loop.example/g01359/laws.FnExactInvariantSets", spec := "fnExactInvariantSets", unfollowed := true, recurses := true, apart := false, narrowed := true }
def FnExactInvariantSetsUptoSaid : Prop := fnExactInvariantSetsUptoRow.holds Try.pinned (OpenSpec.upto fnExactInvariantSetsSpec)

end Rows
end Go.Proofs.Ytpkddcjecfogeaa
