/- The law's function of CountTableSymmetries, walked. -/
import Derived.Test.YtkljidghocnllaaXCountTableSymmetriesc
import Derived.Test.YtkljidghocnllaaCS
import Derived.Test.YtkljidghocnllaaFS
import Derived.Test.YtkljidghocnllaaOT
import Derived.Test.YtkljidghocnllaaLO
namespace Go.Proofs.Ytkljidghocnllaa
open Go.Kv
set_option linter.unusedVariables false
set_option linter.unusedSimpArgs false
attribute [local irreducible] ACall PCall KL
theorem p5_at (t0 : List (List Int)) (ht0 : t0.length ≤ 9223372036854775807) (hl0 : ∀ r ∈ t0, r.length ≤ 9223372036854775807) {r0 : Int} {r1 : Int} (hs : (t0.length ≤ 1048576 ∧ ∀ r ∈ t0, r.length ≤ 1048576) → Pure Try.prog 24 [.list (rows t0)] (.tup [.int .i64 r0, .int .i64 r1])) (hi : (t0.length ≤ 1048576 ∧ ∀ r ∈ t0, r.length ≤ 1048576) → Pure Try.prog 26 [.list (rows t0)] (.tup [.int .i64 r0, .int .i64 r1]))  : Pure Try.prog 5 [.list (rows t0)] (.bool true) := by
  refine e5 (by simp) fun _ _ => ?_
  simp only [k5, argEnv, take6, List.drop_zero, Int.cast_ofNat_Int, go_sem, ↓reduceIte, Nat.reduceEqDiff, Nat.reduceAdd, Nat.reduceMul, Nat.reduceLeDiff, Nat.reduceLT, Int.reduceLE, Int.reduceLT, reduceCtorEq]
  refine (p23 t0 _ ht0 hl0 (by omega)).go ?_
  try simp only [OpK_eq, bne_self_eq_false, take6, List.drop_zero, Int.cast_ofNat_Int, go_sem, ↓reduceIte, Nat.reduceEqDiff, Nat.reduceAdd, Nat.reduceMul, Nat.reduceLeDiff, Nat.reduceLT, Int.reduceLE, Int.reduceLT, reduceCtorEq]
  refine ⟨fun h => Kv.Fin.still ⟨rfl, rfl⟩, fun hz0 => ?_⟩
  obtain ⟨hq0, htot0, hz00, hz10⟩ := szT_all t0 _ (by omega) hz0
  have hs := hs hq0
  have hi := hi hq0
  refine Pure.go (r := .list (rows t0)) (p25 t0 hq0.1 hq0.2) ?_
  try simp only [OpK_eq, bne_self_eq_false, take6, List.drop_zero, Int.cast_ofNat_Int, go_sem, ↓reduceIte, Nat.reduceEqDiff, Nat.reduceAdd, Nat.reduceMul, Nat.reduceLeDiff, Nat.reduceLT, Int.reduceLE, Int.reduceLT, reduceCtorEq]
  refine hs.go ?_
  try simp only [OpK_eq, bne_self_eq_false, take6, List.drop_zero, Int.cast_ofNat_Int, go_sem, ↓reduceIte, Nat.reduceEqDiff, Nat.reduceAdd, Nat.reduceMul, Nat.reduceLeDiff, Nat.reduceLT, Int.reduceLE, Int.reduceLT, reduceCtorEq]
  refine p25O t0 hq0.1 hq0.2 fun xa0 σ1 o_a0 k1 l1 => ?_
  try simp only [OpK_eq, bne_self_eq_false, take6, List.drop_zero, Int.cast_ofNat_Int, go_sem, ↓reduceIte, Nat.reduceEqDiff, Nat.reduceAdd, Nat.reduceMul, Nat.reduceLeDiff, Nat.reduceLT, Int.reduceLE, Int.reduceLT, reduceCtorEq]
  refine hi.lend (.cons o_a0.imm (.nil _)) ?_
  try simp only [OpK_eq, bne_self_eq_false, take6, List.drop_zero, Int.cast_ofNat_Int, go_sem, ↓reduceIte, Nat.reduceEqDiff, Nat.reduceAdd, Nat.reduceMul, Nat.reduceLeDiff, Nat.reduceLT, Int.reduceLE, Int.reduceLT, reduceCtorEq]
  refine Pure.go (r := .list (rows t0)) (p25 t0 hq0.1 hq0.2) ?_
  try simp only [OpK_eq, bne_self_eq_false, take6, List.drop_zero, Int.cast_ofNat_Int, go_sem, ↓reduceIte, Nat.reduceEqDiff, Nat.reduceAdd, Nat.reduceMul, Nat.reduceLeDiff, Nat.reduceLT, Int.reduceLE, Int.reduceLT, reduceCtorEq]
  refine (p27 t0 t0 (by omega) (by omega) (fun r hr => by have := hq0.2 r hr; omega) (fun r hr => by have := hq0.2 r hr; omega)).lend (.cons o_a0.imm (.cons Imm.still (.nil _))) ?_
  try simp only [OpK_eq, bne_self_eq_false, take6, List.drop_zero, Int.cast_ofNat_Int, go_sem, ↓reduceIte, Nat.reduceEqDiff, Nat.reduceAdd, Nat.reduceMul, Nat.reduceLeDiff, Nat.reduceLT, Int.reduceLE, Int.reduceLT, reduceCtorEq]
  exact Kv.Fin.still ⟨rfl, rfl⟩
theorem p5 (t : List (List Int)) (ht : t.length ≤ 9223372036854775807) (hl : ∀ r ∈ t, r.length ≤ 9223372036854775807) : Pure Try.prog 5 [.list (rows t)] (.bool true) :=
  p5_at t ht hl (fun hq => p24 t hq.1 hq.2) (fun hq => p26 t hq.1 hq.2)
end Go.Proofs.Ytkljidghocnllaa
