/- Numbers within bounds. -/
import Derived.Test.YtkljidghocnllaaWc
import Derived.Test.YtkljidghocnllaaFC
namespace Go.Proofs.Ytkljidghocnllaa
open Go.Kv
set_option linter.unusedVariables false
set_option linter.unusedSimpArgs false
attribute [local irreducible] ACall PCall KL
theorem p102 (a b c : Int) : Pure Try.prog 102 [.int .i64 a, .int .i64 b, .int .i64 c] (.bool (decide (b ≤ a ∧ a ≤ c))) := by
  refine e102 (by simp) fun _ _ => ?_
  simp only [k102, argEnv, go_sem, ↓reduceIte, Nat.reduceEqDiff, Nat.reduceAdd, reduceCtorEq]
  by_cases h : b ≤ a <;> simp only [h, true_and, false_and, decide_false, true_implies, not_true_eq_false, false_implies, and_true, not_false_eq_true] <;> exact Kv.Fin.now ⟨rfl, rfl⟩
theorem p103 (a b c : Int) : Pure Try.prog 103 [.int .i64 a, .int .i64 b, .int .i64 c] (.bool (decide (b ≤ a ∧ a ≤ c))) := by
  refine e103 (by simp) fun _ _ => ?_
  simp only [k103, argEnv, go_sem, ↓reduceIte, Nat.reduceEqDiff, Nat.reduceAdd, reduceCtorEq]
  by_cases h : b ≤ a <;> simp only [h, true_and, false_and, decide_false, true_implies, not_true_eq_false, false_implies, and_true, not_false_eq_true] <;> exact Kv.Fin.now ⟨rfl, rfl⟩
end Go.Proofs.Ytkljidghocnllaa
