/- Lists, searched and filtered step by step. -/
import Derived.Test.YtpepbomifjbgnaaFC
namespace Go.Proofs.Ytpepbomifjbgnaa
open Go.Kv
set_option linter.unusedVariables false
set_option linter.unusedSimpArgs false
attribute [local irreducible] ACall PCall KL
theorem all_take_succ {α : Type} (p : α → Bool) {l : List α} {x : Nat} (h : x < l.length) : (l.take (x + 1)).all p = ((l.take x).all p && p l[x]) := by
  rw [List.take_succ_eq_append_getElem h, List.all_append]; simp
theorem not_all {α : Type} {p : α → Bool} {l : List α} {x : Nat} (h : x < l.length) (hp : p l[x] = false) : l.all p = false := by
  rw [List.all_eq_false]
  exact ⟨l[x], List.getElem_mem h, by simp [hp]⟩
theorem getD_eq {α : Type} {l : List α} {x : Nat} (h : x < l.length) (d : α) : l.getD x d = l[x] := by
  rw [List.getD_eq_getElem?_getD, List.getElem?_eq_getElem h]; rfl
/-! ### Searching -/
/-- The first place that a predicate holds at, or -1. -/
def idx {α : Type} (p : α → Bool) (l : List α) : Int := match l.findIdx? p with | some i => i | none => -1
theorem idx_none {α : Type} {p : α → Bool} {l : List α} (h : l.any p = false) : idx p l = -1 := by
  have : l.findIdx? p = none := by
    rw [List.findIdx?_eq_none_iff]
    intro x hx
    rw [List.any_eq_false] at h
    simpa using h x hx
  simp [idx, this]
theorem idx_some {α : Type} {p : α → Bool} {l : List α} {x : Nat} (h : x < l.length) (h0 : (l.take x).any p = false) (h1 : p l[x] = true) : idx p l = x := by
  have : l.findIdx? p = some x := by
    rw [List.findIdx?_eq_some_iff_getElem]
    refine ⟨h, h1, fun j hj => ?_⟩
    rw [List.any_eq_false] at h0
    have := h0 l[j] (List.mem_take_iff_getElem.2 ⟨j, by omega, rfl⟩)
    simpa using this
  simp [idx, this]
theorem any_take_succ {α : Type} (p : α → Bool) {l : List α} {x : Nat} (h : x < l.length) : (l.take (x + 1)).any p = ((l.take x).any p || p l[x]) := by
  rw [List.take_succ_eq_append_getElem h, List.any_append]; simp
theorem idx_nonneg {α : Type} (p : α → Bool) (l : List α) : decide (0 ≤ idx p l) = l.any p := by
  cases h : l.any p with
  | false => rw [idx_none h]; rfl
  | true =>
    unfold idx
    cases hf : l.findIdx? p with
    | none =>
      rw [List.findIdx?_eq_none_iff] at hf
      rw [List.any_eq_true] at h
      obtain ⟨x, hx, hp⟩ := h
      have := hf x hx
      simp [hp] at this
    | some i => simp
theorem any_split {α : Type} {p : α → Bool} : ∀ {l : List α}, l.any p = true → ∃ i, ∃ h : i < l.length, (l.take i).any p = false ∧ p l[i] = true
  | a :: l, h => by
    cases hp : p a with
    | true => exact ⟨0, by simp, by simp, by simpa using hp⟩
    | false =>
      simp only [List.any_cons, hp, Bool.false_or] at h
      obtain ⟨i, hi, h1, h2⟩ := any_split h
      exact ⟨i + 1, by simpa using hi, by simp [hp, h1], by simpa using h2⟩
theorem filter_take_succ {α : Type} {p : α → Bool} {l : List α} {x : Nat} (h : x < l.length) : (l.take (x + 1)).filter p = (l.take x).filter p ++ (if p l[x] = true then [l[x]] else []) := by
  rw [List.take_succ_eq_append_getElem h, List.filter_append]
  congr 1
  by_cases hp : p l[x] = true <;> simp [hp]
theorem filter_none {α : Type} {p : α → Bool} {l : List α} (h : l.any p = false) : l.filter (fun x => !p x) = l := by
  rw [List.filter_eq_self]
  intro a ha
  rw [List.any_eq_false] at h
  simpa using h a ha
end Go.Proofs.Ytpepbomifjbgnaa
