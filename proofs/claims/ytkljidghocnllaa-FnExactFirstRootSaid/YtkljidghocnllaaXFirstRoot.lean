/- The law's function of FirstRoot, walked. -/
import Derived.Test.YtkljidghocnllaaXFirstRootc
import Derived.Test.YtkljidghocnllaaRT
import Derived.Test.YtkljidghocnllaaEqM
namespace Go.Proofs.Ytkljidghocnllaa
open Go.Kv
set_option linter.unusedVariables false
set_option linter.unusedSimpArgs false
attribute [local irreducible] ACall PCall KL
theorem p6_at (t0 : List Int) (hm0 : t0.length = 6) (t1 : Int) {r0 : List Int} {r1 : Int} (hs : Pure Try.prog 28 [.agg (ints t0), .int .i64 t1] (.tup [.agg (ints r0), .int .i64 r1])) (hi : Pure Try.prog 29 [.agg (ints t0), .int .i64 t1] (.tup [.agg (ints r0), .int .i64 r1])) (hr0 : r0.length = 6) : Pure Try.prog 6 [.agg (ints t0), .int .i64 t1] (.bool true) := by
  refine e6 (by simp) fun _ _ => ?_
  simp only [k6, argEnv, hm0, hr0, take6, List.drop_zero, Int.cast_ofNat_Int, go_sem, ↓reduceIte, Nat.reduceEqDiff, Nat.reduceAdd, Nat.reduceMul, Nat.reduceLeDiff, Nat.reduceLT, Int.reduceLE, Int.reduceLT, reduceCtorEq]
  refine (p16 t0 hm0).go ?_
  try simp only [OpK_eq, hm0, hr0, take6, List.drop_zero, Int.cast_ofNat_Int, go_sem, ↓reduceIte, Nat.reduceEqDiff, Nat.reduceAdd, Nat.reduceMul, Nat.reduceLeDiff, Nat.reduceLT, Int.reduceLE, Int.reduceLT, reduceCtorEq]
  refine hs.go ?_
  try simp only [OpK_eq, hm0, hr0, take6, List.drop_zero, Int.cast_ofNat_Int, go_sem, ↓reduceIte, Nat.reduceEqDiff, Nat.reduceAdd, Nat.reduceMul, Nat.reduceLeDiff, Nat.reduceLT, Int.reduceLE, Int.reduceLT, reduceCtorEq]
  refine (p16 t0 hm0).go ?_
  try simp only [OpK_eq, hm0, hr0, take6, List.drop_zero, Int.cast_ofNat_Int, go_sem, ↓reduceIte, Nat.reduceEqDiff, Nat.reduceAdd, Nat.reduceMul, Nat.reduceLeDiff, Nat.reduceLT, Int.reduceLE, Int.reduceLT, reduceCtorEq]
  refine hi.go ?_
  try simp only [OpK_eq, hm0, hr0, take6, List.drop_zero, Int.cast_ofNat_Int, go_sem, ↓reduceIte, Nat.reduceEqDiff, Nat.reduceAdd, Nat.reduceMul, Nat.reduceLeDiff, Nat.reduceLT, Int.reduceLE, Int.reduceLT, reduceCtorEq]
  refine (p30 r0 r0 hr0 hr0).go ?_
  try simp only [OpK_eq, hm0, hr0, take6, List.drop_zero, Int.cast_ofNat_Int, go_sem, ↓reduceIte, Nat.reduceEqDiff, Nat.reduceAdd, Nat.reduceMul, Nat.reduceLeDiff, Nat.reduceLT, Int.reduceLE, Int.reduceLT, reduceCtorEq]
  exact Kv.Fin.still ⟨rfl, rfl⟩
theorem frt_len {f : List Nat} {n k : Nat} (hf : Ok f n) : (frt f n k).length = 6 := by
  unfold frt
  split
  · rfl
  · rename_i g l hr
    have : g ∈ rts f n k := by rw [hr]; simp
    exact (allM_ok hf.pos hf.le (List.mem_filter.1 this).1).mp_len
theorem p6 (m : List Int) (h : m.length = 6) (k : Int) : Pure Try.prog 6 [.agg (ints m), .int .i64 k] (.bool true) := by
  by_cases hb : isM m = false ∨ ¬ (1 ≤ k ∧ k ≤ 6)
  · exact p6_at m h k (p28_out m h k hb) (p29_out m h k hb) rfl
  · have hm : isM m = true := by cases hm : isM m <;> simp_all
    have hk : 1 ≤ k ∧ k ≤ 6 := by
      by_cases hk : 1 ≤ k ∧ k ≤ 6
      · exact hk
      · exact absurd (.inr hk) hb
    obtain ⟨f, n, hf, rfl⟩ := isM_ok h hm
    obtain ⟨j, rfl⟩ : ∃ j : Nat, k = j := ⟨k.toNat, by omega⟩
    exact p6_at _ h _ (p28 f n j hf (by omega) (by omega)) (p29 f n j hf (by omega) (by omega)) (frt_len hf)
end Go.Proofs.Ytkljidghocnllaa
