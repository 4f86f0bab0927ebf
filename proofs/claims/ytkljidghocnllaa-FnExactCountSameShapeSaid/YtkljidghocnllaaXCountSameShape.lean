/- The law's function of CountSameShape, walked. -/
import Derived.Test.YtkljidghocnllaaXCountSameShapec
import Derived.Test.YtkljidghocnllaaCSS
import Derived.Test.YtkljidghocnllaaEqM
namespace Go.Proofs.Ytkljidghocnllaa
open Go.Kv
set_option linter.unusedVariables false
set_option linter.unusedSimpArgs false
attribute [local irreducible] ACall PCall KL
theorem p14_at (t0 : List Int) (hm0 : t0.length = 6) {r0 : Int} {r1 : Int} {r2 : Int} (hs : Pure Try.prog 56 [.agg (ints t0)] (.tup [.int .i64 r0, .int .i64 r1, .int .i64 r2])) (hi : Pure Try.prog 57 [.agg (ints t0)] (.tup [.int .i64 r0, .int .i64 r1, .int .i64 r2]))  : Pure Try.prog 14 [.agg (ints t0)] (.bool true) := by
  refine e14 (by simp) fun _ _ => ?_
  simp only [k14, argEnv, hm0, take6, List.drop_zero, Int.cast_ofNat_Int, go_sem, ↓reduceIte, Nat.reduceEqDiff, Nat.reduceAdd, Nat.reduceMul, Nat.reduceLeDiff, Nat.reduceLT, Int.reduceLE, Int.reduceLT, reduceCtorEq]
  refine (p16 t0 hm0).go ?_
  try simp only [OpK_eq, bne_self_eq_false, hm0, take6, List.drop_zero, Int.cast_ofNat_Int, go_sem, ↓reduceIte, Nat.reduceEqDiff, Nat.reduceAdd, Nat.reduceMul, Nat.reduceLeDiff, Nat.reduceLT, Int.reduceLE, Int.reduceLT, reduceCtorEq]
  refine hs.go ?_
  try simp only [OpK_eq, bne_self_eq_false, hm0, take6, List.drop_zero, Int.cast_ofNat_Int, go_sem, ↓reduceIte, Nat.reduceEqDiff, Nat.reduceAdd, Nat.reduceMul, Nat.reduceLeDiff, Nat.reduceLT, Int.reduceLE, Int.reduceLT, reduceCtorEq]
  refine (p16 t0 hm0).go ?_
  try simp only [OpK_eq, bne_self_eq_false, hm0, take6, List.drop_zero, Int.cast_ofNat_Int, go_sem, ↓reduceIte, Nat.reduceEqDiff, Nat.reduceAdd, Nat.reduceMul, Nat.reduceLeDiff, Nat.reduceLT, Int.reduceLE, Int.reduceLT, reduceCtorEq]
  refine hi.go ?_
  try simp only [OpK_eq, bne_self_eq_false, hm0, take6, List.drop_zero, Int.cast_ofNat_Int, go_sem, ↓reduceIte, Nat.reduceEqDiff, Nat.reduceAdd, Nat.reduceMul, Nat.reduceLeDiff, Nat.reduceLT, Int.reduceLE, Int.reduceLT, reduceCtorEq]
  exact Kv.Fin.still ⟨rfl, rfl⟩
theorem p14 (m : List Int) (h : m.length = 6) : Pure Try.prog 14 [.agg (ints m)] (.bool true) := by
  cases hb : isM m with
  | false => exact p14_at m h (p56_out m h hb) (p57_out m h hb)
  | true =>
    obtain ⟨f, n, hf, rfl⟩ := isM_ok h hb
    exact p14_at _ h (p56 f n hf) (p57 f n hf)
end Go.Proofs.Ytkljidghocnllaa
