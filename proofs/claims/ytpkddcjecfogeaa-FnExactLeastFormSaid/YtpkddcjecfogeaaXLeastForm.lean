/- The law's function of LeastForm, walked. -/
import Derived.Test.YtpkddcjecfogeaaXLeastFormc
import Derived.Test.YtpkddcjecfogeaaLF
import Derived.Test.YtpkddcjecfogeaaEqM
namespace Go.Proofs.Ytpkddcjecfogeaa
open Go.Kv
set_option linter.unusedVariables false
set_option linter.unusedSimpArgs false
attribute [local irreducible] ACall PCall KL
theorem p5_at (t0 : List Int) (hm0 : t0.length = 6) {r0 : List Int} {r1 : Int} (hs : Pure Try.prog 22 [.agg (ints t0)] (.tup [.agg (ints r0), .int .i64 r1])) (hi : Pure Try.prog 23 [.agg (ints t0)] (.tup [.agg (ints r0), .int .i64 r1])) (hr0 : r0.length = 6) : Pure Try.prog 5 [.agg (ints t0)] (.bool true) := by
  refine e5 (by simp) fun _ _ => ?_
  simp only [k5, argEnv, hm0, hr0, take6, List.drop_zero, Int.cast_ofNat_Int, go_sem, ↓reduceIte, Nat.reduceEqDiff, Nat.reduceAdd, Nat.reduceMul, Nat.reduceLeDiff, Nat.reduceLT, Int.reduceLE, Int.reduceLT, reduceCtorEq]
  refine (p15 t0 hm0).go ?_
  try simp only [OpK_eq, bne_self_eq_false, hm0, hr0, take6, List.drop_zero, Int.cast_ofNat_Int, go_sem, ↓reduceIte, Nat.reduceEqDiff, Nat.reduceAdd, Nat.reduceMul, Nat.reduceLeDiff, Nat.reduceLT, Int.reduceLE, Int.reduceLT, reduceCtorEq]
  refine hs.go ?_
  try simp only [OpK_eq, bne_self_eq_false, hm0, hr0, take6, List.drop_zero, Int.cast_ofNat_Int, go_sem, ↓reduceIte, Nat.reduceEqDiff, Nat.reduceAdd, Nat.reduceMul, Nat.reduceLeDiff, Nat.reduceLT, Int.reduceLE, Int.reduceLT, reduceCtorEq]
  refine (p15 t0 hm0).go ?_
  try simp only [OpK_eq, bne_self_eq_false, hm0, hr0, take6, List.drop_zero, Int.cast_ofNat_Int, go_sem, ↓reduceIte, Nat.reduceEqDiff, Nat.reduceAdd, Nat.reduceMul, Nat.reduceLeDiff, Nat.reduceLT, Int.reduceLE, Int.reduceLT, reduceCtorEq]
  refine hi.go ?_
  try simp only [OpK_eq, bne_self_eq_false, hm0, hr0, take6, List.drop_zero, Int.cast_ofNat_Int, go_sem, ↓reduceIte, Nat.reduceEqDiff, Nat.reduceAdd, Nat.reduceMul, Nat.reduceLeDiff, Nat.reduceLT, Int.reduceLE, Int.reduceLT, reduceCtorEq]
  refine (p24 r0 r0 hr0 hr0).go ?_
  try simp only [OpK_eq, bne_self_eq_false, hm0, hr0, take6, List.drop_zero, Int.cast_ofNat_Int, go_sem, ↓reduceIte, Nat.reduceEqDiff, Nat.reduceAdd, Nat.reduceMul, Nat.reduceLeDiff, Nat.reduceLT, Int.reduceLE, Int.reduceLT, reduceCtorEq]
  exact Kv.Fin.still ⟨rfl, rfl⟩
theorem p5 (m : List Int) (h : m.length = 6) : Pure Try.prog 5 [.agg (ints m)] (.bool true) := by
  cases hb : isM m with
  | false => exact p5_at m h (p22_out m h hb) (p23_out m h hb) rfl
  | true =>
    obtain ⟨f, n, hf, rfl⟩ := isM_ok h hb
    have h6 : (mp (lsf f (prm n))).length = 6 := by have := (lsf_ok hf _ (Nat.le_refl _)).mp_len; rwa [List.take_length] at this
    exact p5_at _ h (p22 f n hf) (p23 f n hf) h6
end Go.Proofs.Ytpkddcjecfogeaa
