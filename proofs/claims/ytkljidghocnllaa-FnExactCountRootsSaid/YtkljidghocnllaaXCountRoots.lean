/- The law's function of CountRoots, walked. -/
import Derived.Test.YtkljidghocnllaaXCountRootsc
import Derived.Test.YtkljidghocnllaaRT
namespace Go.Proofs.Ytkljidghocnllaa
open Go.Kv
set_option linter.unusedVariables false
set_option linter.unusedSimpArgs false
attribute [local irreducible] ACall PCall KL
theorem p3_at (t0 : List Int) (hm0 : t0.length = 6) (t1 : Int) {r0 : Int} {r1 : Int} (hs : Pure Try.prog 15 [.agg (ints t0), .int .i64 t1] (.tup [.int .i64 r0, .int .i64 r1])) (hi : Pure Try.prog 17 [.agg (ints t0), .int .i64 t1] (.tup [.int .i64 r0, .int .i64 r1]))  : Pure Try.prog 3 [.agg (ints t0), .int .i64 t1] (.bool true) := by
  refine e3 (by simp) fun _ _ => ?_
  simp only [k3, argEnv, hm0, take6, List.drop_zero, Int.cast_ofNat_Int, go_sem, ↓reduceIte, Nat.reduceEqDiff, Nat.reduceAdd, Nat.reduceMul, Nat.reduceLeDiff, Nat.reduceLT, Int.reduceLE, Int.reduceLT, reduceCtorEq]
  refine (p16 t0 hm0).go ?_
  try simp only [OpK_eq, hm0, take6, List.drop_zero, Int.cast_ofNat_Int, go_sem, ↓reduceIte, Nat.reduceEqDiff, Nat.reduceAdd, Nat.reduceMul, Nat.reduceLeDiff, Nat.reduceLT, Int.reduceLE, Int.reduceLT, reduceCtorEq]
  refine hs.go ?_
  try simp only [OpK_eq, hm0, take6, List.drop_zero, Int.cast_ofNat_Int, go_sem, ↓reduceIte, Nat.reduceEqDiff, Nat.reduceAdd, Nat.reduceMul, Nat.reduceLeDiff, Nat.reduceLT, Int.reduceLE, Int.reduceLT, reduceCtorEq]
  refine (p16 t0 hm0).go ?_
  try simp only [OpK_eq, hm0, take6, List.drop_zero, Int.cast_ofNat_Int, go_sem, ↓reduceIte, Nat.reduceEqDiff, Nat.reduceAdd, Nat.reduceMul, Nat.reduceLeDiff, Nat.reduceLT, Int.reduceLE, Int.reduceLT, reduceCtorEq]
  refine hi.go ?_
  try simp only [OpK_eq, hm0, take6, List.drop_zero, Int.cast_ofNat_Int, go_sem, ↓reduceIte, Nat.reduceEqDiff, Nat.reduceAdd, Nat.reduceMul, Nat.reduceLeDiff, Nat.reduceLT, Int.reduceLE, Int.reduceLT, reduceCtorEq]
  exact Kv.Fin.still ⟨rfl, rfl⟩
theorem p3 (m : List Int) (h : m.length = 6) (k : Int) : Pure Try.prog 3 [.agg (ints m), .int .i64 k] (.bool true) := by
  by_cases hb : isM m = false ∨ ¬ (1 ≤ k ∧ k ≤ 6)
  · exact p3_at m h k (p15_out m h k hb) (p17_out m h k hb) 
  · have hm : isM m = true := by cases hm : isM m <;> simp_all
    have hk : 1 ≤ k ∧ k ≤ 6 := by
      by_cases hk : 1 ≤ k ∧ k ≤ 6
      · exact hk
      · exact absurd (.inr hk) hb
    obtain ⟨f, n, hf, rfl⟩ := isM_ok h hm
    obtain ⟨j, rfl⟩ : ∃ j : Nat, k = j := ⟨k.toNat, by omega⟩
    exact p3_at _ h _ (p15 f n j hf (by omega) (by omega)) (p17 f n j hf (by omega) (by omega)) 
end Go.Proofs.Ytkljidghocnllaa
