/- The code of lists of maps: both sides. -/
import Derived.Test.YtkdkdkkimieieaaLCc
import Derived.Test.YtkdkdkkimieieaaCN
import Derived.Test.YtkdkdkkimieieaaA
namespace Go.Proofs.Ytkdkdkkimieieaa
open Go.Kv
set_option linter.unusedVariables false
set_option linter.unusedSimpArgs false
attribute [local irreducible] ACall PCall KL
/-- What a list of maps and some more come to: none is no map, their number, their points. -/
def lcode (a b : List (List Int)) : Int :=
  if (a ++ b).all isM = false then 1 else if ¬ (1 ≤ a.length ∧ a.length ≤ 6) then 2 else if (a ++ b).all (fun r => decide (r.getD 0 0 = (a.getD 0 []).getD 0 0)) = false then 2 else 0
theorem all_false {α : Type} {l : List α} {x : Nat} {p : α → Bool} (h : x < l.length) (hp : p l[x] = false) : l.all p = false := by
  rw [List.all_eq_false]; exact ⟨l[x], List.getElem_mem h, by simp [hp]⟩
/-- Maps of one number of points. -/
def same (l : List (List Int)) : Bool := decide (1 ≤ l.length ∧ l.length ≤ 6) && l.all fun r => isM r && decide (r.getD 0 0 = (l.getD 0 []).getD 0 0)
theorem lcode_eq (a b : List (List Int)) : lcode a b = if a.all isM = false then 1 else if b.all isM = false then 1 else if same a = false then 2 else if b.all (fun r => decide (r.getD 0 0 = (a.getD 0 []).getD 0 0)) = false then 2 else 0 := by
  have h3 : a.all isM = true → (a.all fun r => isM r && decide (r.getD 0 0 = (a.getD 0 []).getD 0 0)) = a.all fun r => decide (r.getD 0 0 = (a.getD 0 []).getD 0 0) := fun h1 => by
    rw [Bool.eq_iff_iff]
    simp only [List.all_eq_true, Bool.and_eq_true] at h1 ⊢
    exact ⟨fun h r hr => (h r hr).2, fun h r hr => ⟨h1 r hr, h r hr⟩⟩
  simp only [lcode, List.all_append]
  cases h1 : a.all isM
  · simp only [Bool.false_and, if_true]
  cases h2 : b.all isM
  · simp only [Bool.true_and, if_true, Bool.false_and, reduceCtorEq, if_false]
  have hs : same a = (decide (1 ≤ a.length ∧ a.length ≤ 6) && a.all fun r => decide (r.getD 0 0 = (a.getD 0 []).getD 0 0)) := by unfold same; rw [h3 h1]
  rw [hs]
  generalize (a.all fun r => decide (r.getD 0 0 = (a.getD 0 []).getD 0 0)) = x
  generalize (b.all fun r => decide (r.getD 0 0 = (a.getD 0 []).getD 0 0)) = y
  by_cases hc : (1 ≤ a.length ∧ a.length ≤ 6) <;> cases x <;> cases y <;> simp [hc]
end Go.Proofs.Ytkdkdkkimieieaa
