/- Maps in order are told by their members. -/
import Derived.Test.YtpepbomifjbgnaaTL
namespace Go.Proofs.Ytpepbomifjbgnaa
open Go.Kv
set_option linter.unusedVariables false
set_option linter.unusedSimpArgs false
attribute [local irreducible] ACall PCall KL
theorem srm_uniq {n : Nat} : ∀ {S T : List (List Nat)}, SrM n S → SrM n T → (∀ f, f ∈ S ↔ f ∈ T) → S = T
  | [], [], _, _, _ => rfl
  | [], b :: T, _, _, h => by have := (h b).2 (by simp); simp at this
  | a :: S, [], _, _, h => by have := (h a).1 (by simp); simp at this
  | a :: S, b :: T, hS, hT, h => by
    have pS := List.pairwise_cons.1 hS.2
    have pT := List.pairwise_cons.1 hT.2
    have e : a = b := by
      rcases List.mem_cons.1 ((h a).1 (by simp)) with e | e
      · exact e
      · rcases List.mem_cons.1 ((h b).2 (by simp)) with e' | e'
        · exact e'.symm
        · have := pT.1 _ e; have := pS.1 _ e'; omega
    subst e
    rw [srm_uniq (S := S) (T := T) ⟨fun f hf => hS.1 f (by simp [hf]), pS.2⟩ ⟨fun f hf => hT.1 f (by simp [hf]), pT.2⟩ fun f => ?_]
    constructor
    · intro hf
      rcases List.mem_cons.1 ((h f).1 (by simp [hf])) with e | e
      · subst e; have := pS.1 _ hf; omega
      · exact e
    · intro hf
      rcases List.mem_cons.1 ((h f).2 (by simp [hf])) with e | e
      · subst e; have := pT.1 _ hf; omega
      · exact e
end Go.Proofs.Ytpepbomifjbgnaa
