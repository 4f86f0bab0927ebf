/- TableOf at lists that are none: the implementation. -/
import Derived.Test.YtpepbomifjbgnaaTK
namespace Go.Proofs.Ytpepbomifjbgnaa
open Go.Kv
set_option linter.unusedVariables false
set_option linter.unusedSimpArgs false
attribute [local irreducible] ACall PCall KL
theorem p69_out (a : List (List Int)) (ha : a.length ≤ 1048576) (h6 : ∀ r ∈ a, r.length = 6) (hc : lcode a [] ≠ 0) : Pure Try.prog 69 [.list (aggs a), .nils] (.tup [.nilptr, .nils, .int .i64 (lcode a [])]) := by
  refine e69 (by simp) fun _ _ => ?_
  simp only [k69, argEnv, take6, List.drop_zero, Int.cast_ofNat_Int, go_sem, ↓reduceIte, Nat.reduceEqDiff, Nat.reduceAdd, Nat.reduceMul, Nat.reduceLeDiff, Nat.reduceLT, Int.reduceLE, Int.reduceLT, reduceCtorEq]
  refine (p54 _ a [] .nil ha (by simp) h6 (by simp)).go ?_
  try simp only [OpK_eq, HKv, take6, List.drop_zero, Int.cast_ofNat_Int, go_sem, ↓reduceIte, Nat.reduceEqDiff, Nat.reduceAdd, Nat.reduceMul, Nat.reduceLeDiff, Nat.reduceLT, Int.reduceLE, Int.reduceLT, reduceCtorEq]
  refine ⟨fun _ => Kv.Fin.still ⟨rfl, rfl⟩, fun h => absurd h hc⟩
theorem p36_out (a : List (List Int)) (ha : a.length ≤ 1048576) (h6 : ∀ r ∈ a, r.length = 6) (hc : lcode a [] ≠ 0) : Pure Try.prog 36 [.list (aggs a)] (.tup [.nils, .int .i64 (lcode a [])]) := by
  refine e36 (by simp) fun _ _ => ?_
  simp only [k36, argEnv, take6, List.drop_zero, Int.cast_ofNat_Int, go_sem, ↓reduceIte, Nat.reduceEqDiff, Nat.reduceAdd, Nat.reduceMul, Nat.reduceLeDiff, Nat.reduceLT, Int.reduceLE, Int.reduceLT, reduceCtorEq]
  refine (p69_out a ha h6 hc).go ?_
  try simp only [OpK_eq, HKv, take6, List.drop_zero, Int.cast_ofNat_Int, go_sem, ↓reduceIte, Nat.reduceEqDiff, Nat.reduceAdd, Nat.reduceMul, Nat.reduceLeDiff, Nat.reduceLT, Int.reduceLE, Int.reduceLT, reduceCtorEq]
  refine ⟨fun _ => Kv.Fin.still ⟨rfl, rfl⟩, fun h => absurd h hc⟩
end Go.Proofs.Ytpepbomifjbgnaa
