/-
  No cell of these rows narrows 'for every input' (looked for: loops, veiled, ifaces, maps, wideKeys, modest, calm, conditions, laid).
  DERIVED. THE GIVEN ROWS OF THIS SEAT. 9 by the template 'for every input the law returns true; each argument reads behind the call as it read before'; 0 by the template 'total and deterministic' (their statements: YtpepbomifjbgnaaTotals.lean).
  GIVEN WITH THE SEED: the statements are not yours to turn. If you find one false, say at which input.
  Laid BY PROGRAM, IN A SANDBOX (cutbox-rows.mjs): the forced cells as the released guide's own fill.sh prints them over the translation 8477df5ab637c0c9… (all of the seat's roots in one cut). By AI agents, Wed Nov 11 2026. No macro, syntax, notation, axiom, sorry.
-/
import Derived.Test.YtpepbomifjbgnaaChecked
import GoSem.Claim
import GoSem.ClaimJoined
import GoSem.ClaimMapViews
import Derived.JoinedTies
import Derived.KernelRfl
namespace Go.Proofs.Ytpepbomifjbgnaa
/- THE CELL 'sum', in the pinned program and in every row, IS THE sha256 OF THE DUMP (.gsa) THAT YtpepbomifjbgnaaProg.lean LOADS. Nothing in Lean hashes anything: it is a label: what it is worth is what the hold of that sum in a sandbox is worth. -/
noncomputable def Try.pinned : Pinned := { name := "ytpepbomifjbgnaa", sum := "8477df5ab637c0c96200bdad4d3ea7899db0cc78218798f9d476dfbd4613d0de", checked := Try.checked }
namespace Rows
def none {H : Type} : Left H := { results := [], args := [] }

/-- 'laws.FnExactIsIsomorphism': WHATEVER THE INPUT: true; the input reads as it did. -/
def fnExactIsIsomorphismSpec : ChangeSpec := { name := "fnExactIsIsomorphism", fn := fun _ => fun
  | [d1, d2, d3] => { results := [.lit (.bool true)], args := [d1, d2, d3] }
  | _ => none }
def fnExactIsIsomorphismRow : OpenClaim := { program := "ytpepbomifjbgnaa", sum := "8477df5ab637c0c96200bdad4d3ea7899db0cc78218798f9d476dfbd4613d0de", func := "loop.example/g01359/laws.FnExactIsIsomorphism", spec := "fnExactIsIsomorphism", unfollowed := true, recurses := true, apart := false }
def FnExactIsIsomorphismSaid : Prop := fnExactIsIsomorphismRow.holds Try.pinned (OpenSpec.ofChange fnExactIsIsomorphismSpec)

/-- ITS FALSE NEIGHBOUR: 'it returns false'. Refute it at one input. -/
def fnExactIsIsomorphismWrong : ChangeSpec := { name := "fnExactIsIsomorphism", fn := fun _ => fun
  | [d1, d2, d3] => { results := [.lit (.bool false)], args := [d1, d2, d3] }
  | _ => none }
def FnExactIsIsomorphismWrongFalsely : Prop := fnExactIsIsomorphismRow.holds Try.pinned (OpenSpec.ofChange fnExactIsIsomorphismWrong)

/-- 'laws.FnExactIsTransitive': WHATEVER THE INPUT: true; the input reads as it did. -/
def fnExactIsTransitiveSpec : ChangeSpec := { name := "fnExactIsTransitive", fn := fun _ => fun
  | [d] => { results := [.lit (.bool true)], args := [d] }
  | _ => none }
def fnExactIsTransitiveRow : OpenClaim := { program := "ytpepbomifjbgnaa", sum := "8477df5ab637c0c96200bdad4d3ea7899db0cc78218798f9d476dfbd4613d0de", func := "loop.example/g01359/laws.FnExactIsTransitive", spec := "fnExactIsTransitive", unfollowed := true, recurses := true, apart := false }
def FnExactIsTransitiveSaid : Prop := fnExactIsTransitiveRow.holds Try.pinned (OpenSpec.ofChange fnExactIsTransitiveSpec)

/-- ITS FALSE NEIGHBOUR: 'it returns false'. Refute it at one input. -/
def fnExactIsTransitiveWrong : ChangeSpec := { name := "fnExactIsTransitive", fn := fun _ => fun
  | [d] => { results := [.lit (.bool false)], args := [d] }
  | _ => none }
def FnExactIsTransitiveWrongFalsely : Prop := fnExactIsTransitiveRow.holds Try.pinned (OpenSpec.ofChange fnExactIsTransitiveWrong)

/-- 'laws.FnExactOrbitOf': WHATEVER THE INPUT: true; the input reads as it did. -/
def fnExactOrbitOfSpec : ChangeSpec := { name := "fnExactOrbitOf", fn := fun _ => fun
  | [d1, d2] => { results := [.lit (.bool true)], args := [d1, d2] }
  | _ => none }
def fnExactOrbitOfRow : OpenClaim := { program := "ytpepbomifjbgnaa", sum := "8477df5ab637c0c96200bdad4d3ea7899db0cc78218798f9d476dfbd4613d0de", func := "loop.example/g01359/laws.FnExactOrbitOf", spec := "fnExactOrbitOf", unfollowed := true, recurses := true, apart := false }
def FnExactOrbitOfSaid : Prop := fnExactOrbitOfRow.holds Try.pinned (OpenSpec.ofChange fnExactOrbitOfSpec)

/-- ITS FALSE NEIGHBOUR: 'it returns false'. Refute it at one input. -/
def fnExactOrbitOfWrong : ChangeSpec := { name := "fnExactOrbitOf", fn := fun _ => fun
  | [d1, d2] => { results := [.lit (.bool false)], args := [d1, d2] }
  | _ => none }
def FnExactOrbitOfWrongFalsely : Prop := fnExactOrbitOfRow.holds Try.pinned (OpenSpec.ofChange fnExactOrbitOfWrong)

/-- 'laws.FnExactStrongParts': WHATEVER THE INPUT: true; the input reads as it did. -/
def fnExactStrongPartsSpec : ChangeSpec := { name := "fnExactStrongParts", fn := fun _ => fun
  | [d] => { results := [.lit (.bool true)], args := [d] }
  | _ => none }
def fnExactStrongPartsRow : OpenClaim := { program := "ytpepbomifjbgnaa", sum := "8477df5ab637c0c96200bdad4d3ea7899db0cc78218798f9d476dfbd4613d0de", func := "loop.example/g01359/laws.FnExactStrongParts", spec := "fnExactStrongParts", unfollowed := true, recurses := true, apart := false }
def FnExactStrongPartsSaid : Prop := fnExactStrongPartsRow.holds Try.pinned (OpenSpec.ofChange fnExactStrongPartsSpec)

/-- ITS FALSE NEIGHBOUR: 'it returns false'. Refute it at one input. -/
def fnExactStrongPartsWrong : ChangeSpec := { name := "fnExactStrongParts", fn := fun _ => fun
  | [d] => { results := [.lit (.bool false)], args := [d] }
  | _ => none }
def FnExactStrongPartsWrongFalsely : Prop := fnExactStrongPartsRow.holds Try.pinned (OpenSpec.ofChange fnExactStrongPartsWrong)

/-- 'laws.FnExactIsPrimitive': WHATEVER THE INPUT: true; the input reads as it did. -/
def fnExactIsPrimitiveSpec : ChangeSpec := { name := "fnExactIsPrimitive", fn := fun _ => fun
  | [d] => { results := [.lit (.bool true)], args := [d] }
  | _ => none }
def fnExactIsPrimitiveRow : OpenClaim := { program := "ytpepbomifjbgnaa", sum := "8477df5ab637c0c96200bdad4d3ea7899db0cc78218798f9d476dfbd4613d0de", func := "loop.example/g01359/laws.FnExactIsPrimitive", spec := "fnExactIsPrimitive", unfollowed := true, recurses := true, apart := false }
def FnExactIsPrimitiveSaid : Prop := fnExactIsPrimitiveRow.holds Try.pinned (OpenSpec.ofChange fnExactIsPrimitiveSpec)

/-- ITS FALSE NEIGHBOUR: 'it returns false'. Refute it at one input. -/
def fnExactIsPrimitiveWrong : ChangeSpec := { name := "fnExactIsPrimitive", fn := fun _ => fun
  | [d] => { results := [.lit (.bool false)], args := [d] }
  | _ => none }
def FnExactIsPrimitiveWrongFalsely : Prop := fnExactIsPrimitiveRow.holds Try.pinned (OpenSpec.ofChange fnExactIsPrimitiveWrong)

/-- 'laws.FnExactTableOf': WHATEVER THE INPUT: true; the input reads as it did. -/
def fnExactTableOfSpec : ChangeSpec := { name := "fnExactTableOf", fn := fun _ => fun
  | [d] => { results := [.lit (.bool true)], args := [d] }
  | _ => none }
def fnExactTableOfRow : OpenClaim := { program := "ytpepbomifjbgnaa", sum := "8477df5ab637c0c96200bdad4d3ea7899db0cc78218798f9d476dfbd4613d0de", func := "loop.example/g01359/laws.FnExactTableOf", spec := "fnExactTableOf", unfollowed := true, recurses := true, apart := false }
def FnExactTableOfSaid : Prop := fnExactTableOfRow.holds Try.pinned (OpenSpec.ofChange fnExactTableOfSpec)

/-- ITS FALSE NEIGHBOUR: 'it returns false'. Refute it at one input. -/
def fnExactTableOfWrong : ChangeSpec := { name := "fnExactTableOf", fn := fun _ => fun
  | [d] => { results := [.lit (.bool false)], args := [d] }
  | _ => none }
def FnExactTableOfWrongFalsely : Prop := fnExactTableOfRow.holds Try.pinned (OpenSpec.ofChange fnExactTableOfWrong)

/-- 'laws.FnExactInvariantSets': WHATEVER THE INPUT: true; the input reads as it did. -/
def fnExactInvariantSetsSpec : ChangeSpec := { name := "fnExactInvariantSets", fn := fun _ => fun
  | [d] => { results := [.lit (.bool true)], args := [d] }
  | _ => none }
def fnExactInvariantSetsRow : OpenClaim := { program := "ytpepbomifjbgnaa", sum := "8477df5ab637c0c96200bdad4d3ea7899db0cc78218798f9d476dfbd4613d0de", func := "loop.example/g01359/laws.FnExactInvariantSets", spec := "fnExactInvariantSets", unfollowed := true, recurses := true, apart := false }
def FnExactInvariantSetsSaid : Prop := fnExactInvariantSetsRow.holds Try.pinned (OpenSpec.ofChange fnExactInvariantSetsSpec)

/-- ITS FALSE NEIGHBOUR: 'it returns false'. Refute it at one input. -/
def fnExactInvariantSetsWrong : ChangeSpec := { name := "fnExactInvariantSets", fn := fun _ => fun
  | [d] => { results := [.lit (.bool false)], args := [d] }
  | _ => none }
def FnExactInvariantSetsWrongFalsely : Prop := fnExactInvariantSetsRow.holds Try.pinned (OpenSpec.ofChange fnExactInvariantSetsWrong)

/-- 'laws.FnExactLeastImages': WHATEVER THE INPUT: true; the input reads as it did. -/
def fnExactLeastImagesSpec : ChangeSpec := { name := "fnExactLeastImages", fn := fun _ => fun
  | [d] => { results := [.lit (.bool true)], args := [d] }
  | _ => none }
def fnExactLeastImagesRow : OpenClaim := { program := "ytpepbomifjbgnaa", sum := "8477df5ab637c0c96200bdad4d3ea7899db0cc78218798f9d476dfbd4613d0de", func := "loop.example/g01359/laws.FnExactLeastImages", spec := "fnExactLeastImages", unfollowed := true, recurses := true, apart := false }
def FnExactLeastImagesSaid : Prop := fnExactLeastImagesRow.holds Try.pinned (OpenSpec.ofChange fnExactLeastImagesSpec)

/-- ITS FALSE NEIGHBOUR: 'it returns false'. Refute it at one input. -/
def fnExactLeastImagesWrong : ChangeSpec := { name := "fnExactLeastImages", fn := fun _ => fun
  | [d] => { results := [.lit (.bool false)], args := [d] }
  | _ => none }
def FnExactLeastImagesWrongFalsely : Prop := fnExactLeastImagesRow.holds Try.pinned (OpenSpec.ofChange fnExactLeastImagesWrong)

/-- 'laws.FnExactImagesOfSet': WHATEVER THE INPUT: true; the input reads as it did. -/
def fnExactImagesOfSetSpec : ChangeSpec := { name := "fnExactImagesOfSet", fn := fun _ => fun
  | [d1, d2] => { results := [.lit (.bool true)], args := [d1, d2] }
  | _ => none }
def fnExactImagesOfSetRow : OpenClaim := { program := "ytpepbomifjbgnaa", sum := "8477df5ab637c0c96200bdad4d3ea7899db0cc78218798f9d476dfbd4613d0de", func := "loop.example/g01359/laws.FnExactImagesOfSet", spec := "fnExactImagesOfSet", unfollowed := true, recurses := true, apart := false }
def FnExactImagesOfSetSaid : Prop := fnExactImagesOfSetRow.holds Try.pinned (OpenSpec.ofChange fnExactImagesOfSetSpec)

/-- ITS FALSE NEIGHBOUR: 'it returns false'. Refute it at one input. -/
def fnExactImagesOfSetWrong : ChangeSpec := { name := "fnExactImagesOfSet", fn := fun _ => fun
  | [d1, d2] => { results := [.lit (.bool false)], args := [d1, d2] }
  | _ => none }
def FnExactImagesOfSetWrongFalsely : Prop := fnExactImagesOfSetRow.holds Try.pinned (OpenSpec.ofChange fnExactImagesOfSetWrong)

/- THE SECOND FORM. 'bulk': how many values and letters a reading holds, each counted each time it is reached (what is shared counts as often as it is met; a slice's spare places count too). A statement '..UptoSaid' is the law's where the arguments, and the package variables that the reading takes, are together of bulk at most 1048576: NARROWER than '..Said'. Prove '..Said' where nothing that the law and all that it calls make is longer than what came in: it says more and counts as full. Else prove '..UptoSaid'. A law counts once. -/
mutual
def uptoBulk {H : Type} : DataW H → Nat
  | .lit (.string bytes) => bytes.length + 1
  | .lit _ => 1
  | .nil => 1
  | .ptr d => uptoBulk d + 1
  | .slice elems spare => uptoBulkAll elems + uptoBulkAll spare + 1
  | .agg parts => uptoBulkAll parts + 1
  | .iface _ d => uptoBulk d + 1
  | .map entries => uptoBulkEntries entries + 1
  | .held _ => 1
def uptoBulkAll {H : Type} : List (DataW H) → Nat
  | [] => 0
  | d :: r => uptoBulk d + uptoBulkAll r
def uptoBulkEntries {H : Type} : List (Lit × DataW H) → Nat
  | [] => 0
  | x :: r => uptoBulkEntry x + uptoBulkEntries r
def uptoBulkEntry {H : Type} : Lit × DataW H → Nat
  | (.string bytes, d) => bytes.length + uptoBulk d + 1
  | (_, d) => uptoBulk d + 1
 end
def uptoSmall : (H : Type) → List (DataW H) → Bool := fun _ ds => decide (uptoBulkAll ds ≤ 1048576)
def OpenSpec.upto (s : _root_.Go.ChangeSpec) : _root_.Go.OpenSpec := { _root_.Go.OpenSpec.ofChange s with cond := some uptoSmall }

/-- 'laws.FnExactIsIsomorphism', WHERE WHAT IT READS IS OF BULK AT MOST 1048576: true; the input reads as it did. -/
def fnExactIsIsomorphismUptoRow : OpenClaim := { program := "ytpepbomifjbgnaa", sum := "8477df5ab637c0c96200bdad4d3ea7899db0cc78218798f9d476dfbd4613d0de", func := "loop.example/g01359/laws.FnExactIsIsomorphism", spec := "fnExactIsIsomorphism", unfollowed := true, recurses := true, apart := false, narrowed := true }
def FnExactIsIsomorphismUptoSaid : Prop := fnExactIsIsomorphismUptoRow.holds Try.pinned (OpenSpec.upto fnExactIsIsomorphismSpec)

/-- 'laws.FnExactIsTransitive', WHERE WHAT IT READS IS OF BULK AT MOST 1048576: true; the input reads as it did. -/
def fnExactIsTransitiveUptoRow : OpenClaim := { program := "ytpepbomifjbgnaa", sum := "8477df5ab637c0c96200bdad4d3ea7899db0cc78218798f9d476dfbd4613d0de", func := "loop.example/g01359/laws.FnExactIsTransitive", spec := "fnExactIsTransitive", unfollowed := true, recurses := true, apart := false, narrowed := true }
def FnExactIsTransitiveUptoSaid : Prop := fnExactIsTransitiveUptoRow.holds Try.pinned (OpenSpec.upto fnExactIsTransitiveSpec)

/-- 'laws.FnExactOrbitOf', WHERE WHAT IT READS IS OF BULK AT MOST 1048576: true; the input reads as it did. -/
def fnExactOrbitOfUptoRow : OpenClaim := { program := "ytpepbomifjbgnaa", sum := "8477df5ab637c0c96200bdad4d3ea7899db0cc78218798f9d476dfbd4613d0de", func := "loop.example/g01359/laws.FnExactOrbitOf", spec := "fnExactOrbitOf", unfollowed := true, recurses := true, apart := false, narrowed := true }
def FnExactOrbitOfUptoSaid : Prop := fnExactOrbitOfUptoRow.holds Try.pinned (OpenSpec.upto fnExactOrbitOfSpec)

/-- 'laws.FnExactStrongParts', WHERE WHAT IT READS IS OF BULK AT MOST 1048576: true; the input reads as it did. -/
def fnExactStrongPartsUptoRow : OpenClaim := { program := "ytpepbomifjbgnaa", sum := "8477df5ab637c0c96200bdad4d3ea7899db0cc78218798f9d476dfbd4613d0de", func := "loop.example/g01359/laws.FnExactStrongParts", spec := "fnExactStrongParts", unfollowed := true, recurses := true, apart := false, narrowed := true }
def FnExactStrongPartsUptoSaid : Prop := fnExactStrongPartsUptoRow.holds Try.pinned (OpenSpec.upto fnExactStrongPartsSpec)

/-- 'laws.FnExactIsPrimitive', WHERE WHAT IT READS IS OF BULK AT MOST 1048576: true; the input reads as it did. -/
def fnExactIsPrimitiveUptoRow : OpenClaim := { program := "ytpepbomifjbgnaa", sum := "8477df5ab637c0c96200bdad4d3ea7899db0cc78218798f9d476dfbd4613d0de", func := "loop.example/g01359/laws.FnExactIsPrimitive", spec := "fnExactIsPrimitive", unfollowed := true, recurses := true, apart := false, narrowed := true }
def FnExactIsPrimitiveUptoSaid : Prop := fnExactIsPrimitiveUptoRow.holds Try.pinned (OpenSpec.upto fnExactIsPrimitiveSpec)

/-- 'laws.FnExactTableOf', WHERE WHAT IT READS IS OF BULK AT MOST 1048576: true; the input reads as it did. -/
def fnExactTableOfUptoRow : OpenClaim := { program := "ytpepbomifjbgnaa", sum := "8477df5ab637c0c96200bdad4d3ea7899db0cc78218798f9d476dfbd4613d0de", func := "loop.example/g01359/laws.FnExactTableOf", spec := "fnExactTableOf", unfollowed := true, recurses := true, apart := false, narrowed := true }
def FnExactTableOfUptoSaid : Prop := fnExactTableOfUptoRow.holds Try.pinned (OpenSpec.upto fnExactTableOfSpec)

/-- 'laws.FnExactInvariantSets', WHERE WHAT IT READS IS OF BULK AT MOST 1048576: true; the input reads as it did. -/
def fnExactInvariantSetsUptoRow : OpenClaim := { program := "ytpepbomifjbgnaa", sum := "8477df5ab637c0c96200bdad4d3ea7899db0cc78218798f9d476dfbd4613d0de", func := "loop.example/g01359/laws.FnExactInvariantSets", spec := "fnExactInvariantSets", unfollowed := true, recurses := true, apart := false, narrowed := true }
def FnExactInvariantSetsUptoSaid : Prop := fnExactInvariantSetsUptoRow.holds Try.pinned (OpenSpec.upto fnExactInvariantSetsSpec)

/-- 'laws.FnExactLeastImages', WHERE WHAT IT READS IS OF BULK AT MOST 1048576: true; the input reads as it did. -/
def fnExactLeastImagesUptoRow : OpenClaim := { program := "ytpepbomifjbgnaa", sum := "8477df5ab637c0c96200bdad4d3ea7899db0cc78218798f9d476dfbd4613d0de", func := "loop.example/g01359/laws.FnExactLeastImages", spec := "fnExactLeastImages", unfollowed := true, recurses := true, apart := false, narrowed := true }
def FnExactLeastImagesUptoSaid : Prop := fnExactLeastImagesUptoRow.holds Try.pinned (OpenSpec.upto fnExactLeastImagesSpec)

/-- 'laws.FnExactImagesOfSet', WHERE WHAT IT READS IS OF BULK AT MOST 1048576: true; the input reads as it did. -/
def fnExactImagesOfSetUptoRow : OpenClaim := { program := "ytpepbomifjbgnaa", sum := "8477df5ab637c0c96200bdad4d3ea7899db0cc78218798f9d476dfbd4613d0de", func := "loop.example/g01359/laws.FnExactImagesOfSet", spec := "fnExactImagesOfSet", unfollowed := true, recurses := true, apart := false, narrowed := true }
def FnExactImagesOfSetUptoSaid : Prop := fnExactImagesOfSetUptoRow.holds Try.pinned (OpenSpec.upto fnExactImagesOfSetSpec)

end Rows
end Go.Proofs.Ytpepbomifjbgnaa
