/- The law's function of CountShapes, walked. -/
import Derived.Test.YtpkddcjecfogeaaXCountShapesc
import Derived.Test.YtpkddcjecfogeaaCH
namespace Go.Proofs.Ytpkddcjecfogeaa
open Go.Kv
set_option linter.unusedVariables false
set_option linter.unusedSimpArgs false
attribute [local irreducible] ACall PCall KL
theorem hkt_CountShapes (σ : Heap) (K : PV → Heap → Prop) (l : List PV) : HK σ K (.tup l) = K (.tup l) σ := rfl
theorem p4_at (t0 : Int) {r0 : Int} {r1 : Int} (hs : Pure Try.prog 20 [.int .i64 t0] (.tup [.int .i64 r0, .int .i64 r1])) (hi : Pure Try.prog 21 [.int .i64 t0] (.tup [.int .i64 r0, .int .i64 r1]))  : Pure Try.prog 4 [.int .i64 t0] (.bool true) := by
  refine e4 (by simp) fun _ _ => ?_
  simp only [k4, argEnv, take6, List.drop_zero, Int.cast_ofNat_Int, go_sem, ↓reduceIte, Nat.reduceEqDiff, Nat.reduceAdd, Nat.reduceMul, Nat.reduceLeDiff, Nat.reduceLT, Int.reduceLE, Int.reduceLT, reduceCtorEq]
  first | refine hs.go ?_ | refine hs.pgo ?_
  try simp only [OpK_eq, bne_self_eq_false, hkt_CountShapes, take6, List.drop_zero, Int.cast_ofNat_Int, go_sem, ↓reduceIte, Nat.reduceEqDiff, Nat.reduceAdd, Nat.reduceMul, Nat.reduceLeDiff, Nat.reduceLT, Int.reduceLE, Int.reduceLT, reduceCtorEq]
  first | refine hi.go ?_ | refine hi.pgo ?_
  try simp only [OpK_eq, bne_self_eq_false, hkt_CountShapes, take6, List.drop_zero, Int.cast_ofNat_Int, go_sem, ↓reduceIte, Nat.reduceEqDiff, Nat.reduceAdd, Nat.reduceMul, Nat.reduceLeDiff, Nat.reduceLT, Int.reduceLE, Int.reduceLT, reduceCtorEq]
  exact Kv.Fin.still ⟨rfl, rfl⟩
theorem p4 (k : Int) : Pure Try.prog 4 [.int .i64 k] (.bool true) := by
  by_cases h : 1 ≤ k ∧ k ≤ 5
  · obtain ⟨n, rfl⟩ : ∃ n : Nat, k = n := ⟨k.toNat, by omega⟩
    exact p4_at _ (p20_in n (by omega) (by omega)) (p21_in n (by omega) (by omega))
  · exact p4_at k (p20_out k h) (p21_out k h)
end Go.Proofs.Ytpkddcjecfogeaa
