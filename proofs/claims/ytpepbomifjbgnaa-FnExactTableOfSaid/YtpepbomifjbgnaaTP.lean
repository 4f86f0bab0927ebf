/- The places while the monoid is found. -/
import Derived.Test.YtpepbomifjbgnaaTN
namespace Go.Proofs.Ytpepbomifjbgnaa
open Go.Kv
set_option linter.unusedVariables false
set_option linter.unusedSimpArgs false
attribute [local irreducible] ACall PCall KL
/-- Each map found has its place, counted from 1; others have 0. -/
def FdOk (n : Nat) (P : List Int) (Q : List (List Nat)) : Prop := P.length = 3125 ∧ (∀ x ∈ P, 0 ≤ x ∧ x ≤ 300) ∧ ∀ f, Ok f n → (∀ j : Nat, Q[j]? = some f → P.getD (numK f 5) 0 = j + 1) ∧ (f ∉ Q → P.getD (numK f 5) 0 = 0)
theorem FdOk.pos {n : Nat} {P : List Int} {Q : List (List Nat)} (h : FdOk n P Q) {f : List Nat} (hf : Ok f n) : 0 < P.getD (numK f 5) 0 ↔ f ∈ Q := by
  constructor
  · intro h1
    apply Classical.byContradiction
    intro h2
    have := (h.2.2 f hf).2 h2; omega
  · intro h1
    obtain ⟨j, hj, e⟩ := List.getElem_of_mem h1
    have := (h.2.2 f hf).1 j (by rw [List.getElem?_eq_getElem hj, e]); omega
theorem FdOk.push {n : Nat} {P : List Int} {Q : List (List Nat)} (h : FdOk n P Q) {g : List Nat} (hg : Ok g n) (hn : g ∉ Q) (hl : Q.length < 300) : FdOk n (P.set (numK g 5) (Q.length + 1)) (Q ++ [g]) := by
  refine ⟨by rw [List.length_set, h.1], fun x hx => ?_, fun f hf => ⟨fun j hj => ?_, fun hm => ?_⟩⟩
  · rcases List.mem_or_eq_of_mem_set hx with h' | h'
    · exact h.2.1 x h'
    · omega
  · rw [set_getD, h.1]
    by_cases e : f = g
    · subst e
      rw [if_pos ⟨rfl, num_lt hf⟩]
      by_cases hjl : j < Q.length
      · rw [List.getElem?_append_left hjl] at hj
        exact absurd (List.mem_of_getElem? hj) hn
      · have := (List.getElem?_eq_some_iff.1 hj).1
        simp at this
        omega
    · rw [if_neg fun c => e (num_inj hf hg c.1.symm)]
      by_cases hjl : j < Q.length
      · rw [List.getElem?_append_left hjl] at hj
        exact (h.2.2 f hf).1 j hj
      · rw [List.getElem?_append_right (by omega)] at hj
        have := List.mem_of_getElem? hj
        simp at this
        exact absurd this e
  · simp at hm
    rw [set_getD, if_neg fun c => hm.2 (num_inj hf hg c.1.symm)]
    exact (h.2.2 f hf).2 hm.1
end Go.Proofs.Ytpepbomifjbgnaa
