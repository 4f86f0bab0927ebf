/- Numbers within bounds. -/
import Derived.Test.YtkdkdkkimieieaaWc
import Derived.Test.YtkdkdkkimieieaaFC
namespace Go.Proofs.Ytkdkdkkimieieaa
open Go.Kv
set_option linter.unusedVariables false
set_option linter.unusedSimpArgs false
attribute [local irreducible] ACall PCall KL
theorem p51 (a b c : Int) : Pure Try.prog 51 [.int .i64 a, .int .i64 b, .int .i64 c] (.bool (decide (b ≤ a ∧ a ≤ c))) := by
  refine e51 (by simp) fun _ _ => ?_
  simp only [k51, argEnv, go_sem, ↓reduceIte, Nat.reduceEqDiff, Nat.reduceAdd, reduceCtorEq]
  by_cases h : b ≤ a <;> simp only [h, true_and, false_and, decide_false, true_implies, not_true_eq_false, false_implies, and_true, not_false_eq_true] <;> exact Kv.Fin.now ⟨rfl, rfl⟩
theorem p91 (a b c : Int) : Pure Try.prog 91 [.int .i64 a, .int .i64 b, .int .i64 c] (.bool (decide (b ≤ a ∧ a ≤ c))) := by
  refine e91 (by simp) fun _ _ => ?_
  simp only [k91, argEnv, go_sem, ↓reduceIte, Nat.reduceEqDiff, Nat.reduceAdd, reduceCtorEq]
  by_cases h : b ≤ a <;> simp only [h, true_and, false_and, decide_false, true_implies, not_true_eq_false, false_implies, and_true, not_false_eq_true] <;> exact Kv.Fin.now ⟨rfl, rfl⟩
end Go.Proofs.Ytkdkdkkimieieaa
