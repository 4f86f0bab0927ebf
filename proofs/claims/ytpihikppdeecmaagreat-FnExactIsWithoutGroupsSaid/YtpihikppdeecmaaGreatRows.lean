/-
  No cell of these rows narrows 'for every input' (looked for: loops, veiled, ifaces, maps, wideKeys, modest, calm, conditions, laid).
  DERIVED. THE GIVEN ROWS OF THIS SEAT. 2 by the template 'for every input the law returns true; each argument reads behind the call as it read before'; 0 by the template 'total and deterministic' (their statements: YtpihikppdeecmaaGreatTotals.lean).
  GIVEN WITH THE SEED: the statements are not yours to turn. If you find one false, say at which input.
  Laid BY PROGRAM, IN A SANDBOX (cutbox-rows.mjs): the forced cells as the released guide's own fill.sh prints them over the translation f3a82538b97439e5… (all of the seat's roots in one cut). By AI agents, Wed Nov 11 2026. No macro, syntax, notation, axiom, sorry.
-/
import Derived.Test.YtpihikppdeecmaaGreatChecked
import GoSem.Claim
import GoSem.ClaimJoined
import GoSem.ClaimMapViews
import Derived.JoinedTies
import Derived.KernelRfl
namespace Go.Proofs.YtpihikppdeecmaaGreat
/- THE CELL 'sum', in the pinned program and in every row, IS THE sha256 OF THE DUMP (.gsa) THAT YtpihikppdeecmaaGreatProg.lean LOADS. Nothing in Lean hashes anything: it is a label: what it is worth is what the hold of that sum in a sandbox is worth. -/
noncomputable def Tryz.pinned : Pinned := { name := "ytpihikppdeecmaagreat", sum := "f3a82538b97439e59f7a48ef31d96952001d4df791af5908e5d167a603c4318e", checked := Tryz.checked }
namespace Rows
def none {H : Type} : Left H := { results := [], args := [] }

/-- 'laws.FnExactIsWithoutGroups': WHATEVER THE INPUT: true; the input reads as it did. -/
def fnExactIsWithoutGroupsSpec : ChangeSpec := { name := "fnExactIsWithoutGroups", fn := fun _ => fun
  | [d] => { results := [.lit (.bool true)], args := [d] }
  | _ => none }
def fnExactIsWithoutGroupsRow : OpenClaim := { program := "ytpihikppdeecmaagreat", sum := "f3a82538b97439e59f7a48ef31d96952001d4df791af5908e5d167a603c4318e", func := "loop.example/g01359/laws.FnExactIsWithoutGroups", spec := "fnExactIsWithoutGroups", unfollowed := true, recurses := true, apart := false }
def FnExactIsWithoutGroupsSaid : Prop := fnExactIsWithoutGroupsRow.holds Tryz.pinned (OpenSpec.ofChange fnExactIsWithoutGroupsSpec)

/-- ITS FALSE NEIGHBOUR: 'it returns false'. Refute it at one input. -/
def fnExactIsWithoutGroupsWrong : ChangeSpec := { name := "fnExactIsWithoutGroups", fn := fun _ => fun
  | [d] => { results := [.lit (.bool false)], args := [d] }
  | _ => none }
def FnExactIsWithoutGroupsWrongFalsely : Prop := fnExactIsWithoutGroupsRow.holds Tryz.pinned (OpenSpec.ofChange fnExactIsWithoutGroupsWrong)

/-- 'laws.FnLanguages': WHATEVER THE INPUT: true; the input reads as it did. -/
def fnLanguagesSpec : ChangeSpec := { name := "fnLanguages", fn := fun _ => fun
  | [d] => { results := [.lit (.bool true)], args := [d] }
  | _ => none }
def fnLanguagesRow : OpenClaim := { program := "ytpihikppdeecmaagreat", sum := "f3a82538b97439e59f7a48ef31d96952001d4df791af5908e5d167a603c4318e", func := "loop.example/g01359/laws.FnLanguages", spec := "fnLanguages", unfollowed := true, recurses := true, apart := false }
def FnLanguagesSaid : Prop := fnLanguagesRow.holds Tryz.pinned (OpenSpec.ofChange fnLanguagesSpec)

/-- ITS FALSE NEIGHBOUR: 'it returns false'. Refute it at one input. -/
def fnLanguagesWrong : ChangeSpec := { name := "fnLanguages", fn := fun _ => fun
  | [d] => { results := [.lit (.bool false)], args := [d] }
  | _ => none }
def FnLanguagesWrongFalsely : Prop := fnLanguagesRow.holds Tryz.pinned (OpenSpec.ofChange fnLanguagesWrong)

/- THE SECOND FORM. 'bulk': how many values and letters a reading holds, each counted each time it is reached (what is shared counts as often as it is met; a slice's spare places count too). A statement '..UptoSaid' is the law's where the arguments, and the package variables that the reading takes, are together of bulk at most 1048576: NARROWER than '..Said'. Prove '..Said' where nothing that the law and all that it calls make is longer than what came in: it says more and counts as full. Else prove '..UptoSaid'. A law counts once. -/
mutual
def uptoBulk {H : Type} : DataW H → Nat
  | .lit (.string bytes) => bytes.length + 1
  | .lit _ => 1
  | .nil => 1
  | .ptr d => uptoBulk d + 1
  | .slice elems spare => uptoBulkAll elems + uptoBulkAll spare + 1
  | .agg parts => uptoBulkAll parts + 1
  | .iface _ d => uptoBulk d + 1
  | .map entries => uptoBulkEntries entries + 1
  | .held _ => 1
def uptoBulkAll {H : Type} : List (DataW H) → Nat
  | [] => 0
  | d :: r => uptoBulk d + uptoBulkAll r
def uptoBulkEntries {H : Type} : List (Lit × DataW H) → Nat
  | [] => 0
  | x :: r => uptoBulkEntry x + uptoBulkEntries r
def uptoBulkEntry {H : Type} : Lit × DataW H → Nat
  | (.string bytes, d) => bytes.length + uptoBulk d + 1
  | (_, d) => uptoBulk d + 1
 end
def uptoSmall : (H : Type) → List (DataW H) → Bool := fun _ ds => decide (uptoBulkAll ds ≤ 1048576)
def OpenSpec.upto (s : _root_.Go.ChangeSpec) : _root_.Go.OpenSpec := { _root_.Go.OpenSpec.ofChange s with cond := some uptoSmall }

/-- 'laws.FnExactIsWithoutGroups', WHERE WHAT IT READS IS OF BULK AT MOST 1048576: true; the input reads as it did. -/
def fnExactIsWithoutGroupsUptoRow : OpenClaim := { program := "ytpihikppdeecmaagreat", sum := "f3a82538b97439e59f7a48ef31d96952001d4df791af5908e5d167a603c4318e", func := "loop.example/g01359/laws.FnExactIsWithoutGroups", spec := "fnExactIsWithoutGroups", unfollowed := true, recurses := true, apart := false, narrowed := true }
def FnExactIsWithoutGroupsUptoSaid : Prop := fnExactIsWithoutGroupsUptoRow.holds Tryz.pinned (OpenSpec.upto fnExactIsWithoutGroupsSpec)

/-- 'laws.FnLanguages', WHERE WHAT IT READS IS OF BULK AT MOST 1048576: true; the input reads as it did. -/
def fnLanguagesUptoRow : OpenClaim := { program := "ytpihikppdeecmaagreat", sum := "f3a82538b97439e59f7a48ef31d96952001d4df791af5908e5d167a603c4318e", func := "loop.example/g01359/laws.FnLanguages", spec := "fnLanguages", unfollowed := true, recurses := true, apart := false, narrowed := true }
def FnLanguagesUptoSaid : Prop := fnLanguagesUptoRow.holds Tryz.pinned (OpenSpec.upto fnLanguagesSpec)

end Rows
end Go.Proofs.YtpihikppdeecmaaGreat
