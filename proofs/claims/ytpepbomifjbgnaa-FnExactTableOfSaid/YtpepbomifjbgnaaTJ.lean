/- Places that tell the elements: both tables are one. -/
import Derived.Test.YtpepbomifjbgnaaTF
namespace Go.Proofs.Ytpepbomifjbgnaa
open Go.Kv
set_option linter.unusedVariables false
set_option linter.unusedSimpArgs false
attribute [local irreducible] ACall PCall KL
/-- The places are those of the elements. -/
def PlOk (n : Nat) (P : List Int) (S : List (List Nat)) : Prop := P.length = 3125 ∧ (∀ x ∈ P, 0 ≤ x ∧ x ≤ 300) ∧ ∀ f, Ok f n → P.getD (numK f 5) 0 - 1 = plM n S f
theorem tabP_eq {n : Nat} {P : List Int} {S : List (List Nat)} (h : PlOk n P S) (hS : ∀ f ∈ S, Ok f n) : tabP P S S.length = tabM n S := by
  have hg : ∀ i, (hi : i < S.length) → S.getD i [] = S[i] := fun i hi => by simp [List.getD_eq_getElem?_getD, hi]
  refine List.ext_getElem (by simp [tabP, tabM]) fun i h1 h2 => ?_
  have hi : i < S.length := by simpa [tabP] using h1
  simp only [tabP, tabM, List.getElem_map, List.getElem_range]
  refine List.ext_getElem (by simp [rowP, rowM]) fun k h3 h4 => ?_
  have hk : k < S.length := by simpa [rowP] using h3
  simp only [rowP, rowM, List.getElem_map, List.getElem_range, plP, hg i hi, hg k hk]
  exact h.2.2 _ ((hS _ (List.getElem_mem hi)).mul (hS _ (List.getElem_mem hk)))
end Go.Proofs.Ytpepbomifjbgnaa
