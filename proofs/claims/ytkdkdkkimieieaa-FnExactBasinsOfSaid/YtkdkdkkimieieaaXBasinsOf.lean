/- The law's function of BasinsOf, walked. -/
import Derived.Test.YtkdkdkkimieieaaXBasinsOfc
import Derived.Test.YtkdkdkkimieieaaHB
import Derived.Test.YtkdkdkkimieieaaB
import Derived.Test.YtkdkdkkimieieaaMA
namespace Go.Proofs.Ytkdkdkkimieieaa
open Go.Kv
set_option linter.unusedVariables false
set_option linter.unusedSimpArgs false
attribute [local irreducible] ACall PCall KL
theorem p10_in (m : List Int) (h : m.length = 6) {l : List Int} {r : Int} (hs : NewI Try.prog 39 [.agg (ints m)] 2 l r) (hi : NewI Try.prog 40 [.agg (ints m)] 2 l r) (hl : l.length ≤ 4294967296) : Pure Try.prog 10 [.agg (ints m)] (.bool true) := by
  refine e10 (by simp) fun _ _ => ?_
  simp only [k10, argEnv, h, mpN_get, mpN_get0, mp_get, mp_get0, take6, List.drop_zero, go_sem, ↓reduceIte, Nat.reduceEqDiff, Nat.reduceAdd, Nat.reduceMul, Nat.reduceLeDiff, Nat.reduceLT, Int.reduceLE, Int.reduceLT, reduceCtorEq]
  refine (p30 m h).go ?_
  simp only [mpN_get, mpN_get0, mp_get, mp_get0, take6, List.drop_zero, go_sem, ↓reduceIte, Nat.reduceEqDiff, Nat.reduceAdd, Nat.reduceMul, Nat.reduceLeDiff, Nat.reduceLT, Int.reduceLE, Int.reduceLT, reduceCtorEq]
  refine hs.call (StillL.up inferInstance) fun v0 r0 q0 => ?_
  simp only [h, mpN_get, mpN_get0, mp_get, mp_get0, take6, List.drop_zero, go_sem, ↓reduceIte, Nat.reduceEqDiff, Nat.reduceAdd, Nat.reduceMul, Nat.reduceLeDiff, Nat.reduceLT, Int.reduceLE, Int.reduceLT, reduceCtorEq]
  refine (p30 m h).go ?_
  simp only [mpN_get, mpN_get0, mp_get, mp_get0, take6, List.drop_zero, go_sem, ↓reduceIte, Nat.reduceEqDiff, Nat.reduceAdd, Nat.reduceMul, Nat.reduceLeDiff, Nat.reduceLT, Int.reduceLE, Int.reduceLT, reduceCtorEq]
  refine hi.call (StillL.up inferInstance) fun v1 r1 q1 => ?_
  simp only [mpN_get, mpN_get0, mp_get, mp_get0, take6, List.drop_zero, go_sem, ↓reduceIte, Nat.reduceEqDiff, Nat.reduceAdd, Nat.reduceMul, Nat.reduceLeDiff, Nat.reduceLT, Int.reduceLE, Int.reduceLT, reduceCtorEq]
  refine (p19 l l hl hl).lend (.cons (.refp rfl rfl rfl) (.cons (.refp rfl rfl rfl) (.nil _))) ?_
  simp only [mpN_get, mpN_get0, mp_get, mp_get0, take6, List.drop_zero, go_sem, ↓reduceIte, Nat.reduceEqDiff, Nat.reduceAdd, Nat.reduceMul, Nat.reduceLeDiff, Nat.reduceLT, Int.reduceLE, Int.reduceLT, reduceCtorEq]
  refine p20 _ 1 v1 2 r1 l q1 1 rfl (by omega) hl ?_
  simp only [mpN_get, mpN_get0, mp_get, mp_get0, take6, List.drop_zero, go_sem, ↓reduceIte, Nat.reduceEqDiff, Nat.reduceAdd, Nat.reduceMul, Nat.reduceLeDiff, Nat.reduceLT, Int.reduceLE, Int.reduceLT, reduceCtorEq]
  refine (p21 1 l.length (by omega) hl).lend (.cons (.refp rfl (by simp) rfl) (.cons (.int _ _ _) (.nil _))) ?_
  simp only [mpN_get, mpN_get0, mp_get, mp_get0, take6, List.drop_zero, go_sem, ↓reduceIte, Nat.reduceEqDiff, Nat.reduceAdd, Nat.reduceMul, Nat.reduceLeDiff, Nat.reduceLT, Int.reduceLE, Int.reduceLT, reduceCtorEq]
  repeat' (first | refine And.intro ?_ ?_ | intro _)
  all_goals (try omega)
  simp only [h, mpN_get, mpN_get0, mp_get, mp_get0, take6, List.drop_zero, go_sem, ↓reduceIte, Nat.reduceEqDiff, Nat.reduceAdd, Nat.reduceMul, Nat.reduceLeDiff, Nat.reduceLT, Int.reduceLE, Int.reduceLT, reduceCtorEq]
  refine (p30 m h).go ?_
  simp only [mpN_get, mpN_get0, mp_get, mp_get0, take6, List.drop_zero, go_sem, ↓reduceIte, Nat.reduceEqDiff, Nat.reduceAdd, Nat.reduceMul, Nat.reduceLeDiff, Nat.reduceLT, Int.reduceLE, Int.reduceLT, reduceCtorEq]
  refine hi.call (StillL.up inferInstance) fun v2 r2 q2 => ?_
  simp only [mpN_get, mpN_get0, mp_get, mp_get0, take6, List.drop_zero, go_sem, ↓reduceIte, Nat.reduceEqDiff, Nat.reduceAdd, Nat.reduceMul, Nat.reduceLeDiff, Nat.reduceLT, Int.reduceLE, Int.reduceLT, reduceCtorEq]
  refine (p19 l l hl hl).lend (.cons (.refp rfl rfl rfl) (.cons (.refp rfl rfl rfl) (.nil _))) ?_
  simp only [mpN_get, mpN_get0, mp_get, mp_get0, take6, List.drop_zero, go_sem, ↓reduceIte, Nat.reduceEqDiff, Nat.reduceAdd, Nat.reduceMul, Nat.reduceLeDiff, Nat.reduceLT, Int.reduceLE, Int.reduceLT, reduceCtorEq]
  refine (p21 1 l.length (by omega) hl).lend (.cons (.refp rfl (by simp) rfl) (.cons (.int _ _ _) (.nil _))) ?_
  simp only [mpN_get, mpN_get0, mp_get, mp_get0, take6, List.drop_zero, go_sem, ↓reduceIte, Nat.reduceEqDiff, Nat.reduceAdd, Nat.reduceMul, Nat.reduceLeDiff, Nat.reduceLT, Int.reduceLE, Int.reduceLT, reduceCtorEq]
  repeat' (first | refine And.intro ?_ ?_ | intro _)
  all_goals (try omega)
  exact Kv.Fin.still ⟨rfl, rfl⟩
theorem p10_out (m : List Int) (h : m.length = 6) {r : Int} (hs : Pure Try.prog 39 [.agg (ints m)] (.tup [.nils, .int .i64 r])) (hi : Pure Try.prog 40 [.agg (ints m)] (.tup [.nils, .int .i64 r])) : Pure Try.prog 10 [.agg (ints m)] (.bool true) := by
  refine e10 (by simp) fun _ _ => ?_
  simp only [k10, argEnv, h, mpN_get, mpN_get0, mp_get, mp_get0, take6, List.drop_zero, go_sem, ↓reduceIte, Nat.reduceEqDiff, Nat.reduceAdd, Nat.reduceMul, Nat.reduceLeDiff, Nat.reduceLT, Int.reduceLE, Int.reduceLT, reduceCtorEq]
  refine (p30 m h).go ?_
  simp only [mpN_get, mpN_get0, mp_get, mp_get0, take6, List.drop_zero, go_sem, ↓reduceIte, Nat.reduceEqDiff, Nat.reduceAdd, Nat.reduceMul, Nat.reduceLeDiff, Nat.reduceLT, Int.reduceLE, Int.reduceLT, reduceCtorEq]
  refine hs.go ?_
  simp only [h, mpN_get, mpN_get0, mp_get, mp_get0, take6, List.drop_zero, go_sem, ↓reduceIte, Nat.reduceEqDiff, Nat.reduceAdd, Nat.reduceMul, Nat.reduceLeDiff, Nat.reduceLT, Int.reduceLE, Int.reduceLT, reduceCtorEq]
  refine (p30 m h).go ?_
  simp only [mpN_get, mpN_get0, mp_get, mp_get0, take6, List.drop_zero, go_sem, ↓reduceIte, Nat.reduceEqDiff, Nat.reduceAdd, Nat.reduceMul, Nat.reduceLeDiff, Nat.reduceLT, Int.reduceLE, Int.reduceLT, reduceCtorEq]
  refine hi.go ?_
  simp only [mpN_get, mpN_get0, mp_get, mp_get0, take6, List.drop_zero, go_sem, ↓reduceIte, Nat.reduceEqDiff, Nat.reduceAdd, Nat.reduceMul, Nat.reduceLeDiff, Nat.reduceLT, Int.reduceLE, Int.reduceLT, reduceCtorEq]
  refine (p19 [] [] (by simp) (by simp)).lend (.cons .nils (.cons .nils (.nil _))) ?_
  simp only [mpN_get, mpN_get0, mp_get, mp_get0, take6, List.drop_zero, go_sem, ↓reduceIte, Nat.reduceEqDiff, Nat.reduceAdd, Nat.reduceMul, Nat.reduceLeDiff, Nat.reduceLT, Int.reduceLE, Int.reduceLT, reduceCtorEq]
  refine p20n _ 1 ?_
  simp only [mpN_get, mpN_get0, mp_get, mp_get0, take6, List.drop_zero, go_sem, ↓reduceIte, Nat.reduceEqDiff, Nat.reduceAdd, Nat.reduceMul, Nat.reduceLeDiff, Nat.reduceLT, Int.reduceLE, Int.reduceLT, reduceCtorEq]
  refine (p21 1 0 (by omega) (by omega)).lend (.cons .nils (.cons (.int _ _ _) (.nil _))) ?_
  simp only [mpN_get, mpN_get0, mp_get, mp_get0, take6, List.drop_zero, go_sem, ↓reduceIte, Nat.reduceEqDiff, Nat.reduceAdd, Nat.reduceMul, Nat.reduceLeDiff, Nat.reduceLT, Int.reduceLE, Int.reduceLT, reduceCtorEq]
  repeat' (first | refine And.intro ?_ ?_ | intro _)
  all_goals (try omega)
  simp only [h, mpN_get, mpN_get0, mp_get, mp_get0, take6, List.drop_zero, go_sem, ↓reduceIte, Nat.reduceEqDiff, Nat.reduceAdd, Nat.reduceMul, Nat.reduceLeDiff, Nat.reduceLT, Int.reduceLE, Int.reduceLT, reduceCtorEq]
  refine (p30 m h).go ?_
  simp only [mpN_get, mpN_get0, mp_get, mp_get0, take6, List.drop_zero, go_sem, ↓reduceIte, Nat.reduceEqDiff, Nat.reduceAdd, Nat.reduceMul, Nat.reduceLeDiff, Nat.reduceLT, Int.reduceLE, Int.reduceLT, reduceCtorEq]
  refine hi.go ?_
  simp only [mpN_get, mpN_get0, mp_get, mp_get0, take6, List.drop_zero, go_sem, ↓reduceIte, Nat.reduceEqDiff, Nat.reduceAdd, Nat.reduceMul, Nat.reduceLeDiff, Nat.reduceLT, Int.reduceLE, Int.reduceLT, reduceCtorEq]
  refine (p19 [] [] (by simp) (by simp)).lend (.cons .nils (.cons .nils (.nil _))) ?_
  simp only [mpN_get, mpN_get0, mp_get, mp_get0, take6, List.drop_zero, go_sem, ↓reduceIte, Nat.reduceEqDiff, Nat.reduceAdd, Nat.reduceMul, Nat.reduceLeDiff, Nat.reduceLT, Int.reduceLE, Int.reduceLT, reduceCtorEq]
  refine (p21 1 0 (by omega) (by omega)).lend (.cons .nils (.cons (.int _ _ _) (.nil _))) ?_
  simp only [mpN_get, mpN_get0, mp_get, mp_get0, take6, List.drop_zero, go_sem, ↓reduceIte, Nat.reduceEqDiff, Nat.reduceAdd, Nat.reduceMul, Nat.reduceLeDiff, Nat.reduceLT, Int.reduceLE, Int.reduceLT, reduceCtorEq]
  repeat' (first | refine And.intro ?_ ?_ | intro _)
  all_goals (try omega)
  exact Kv.Fin.still ⟨rfl, rfl⟩
theorem p10 (m : List Int) (h : m.length = 6) : Pure Try.prog 10 [.agg (ints m)] (.bool true) := by
  cases hm : isM m with
  | false => exact p10_out m h (p39_out m h hm) (p40_out m h hm)
  | true =>
    obtain ⟨f, n, hf, rfl⟩ := isM_ok h hm
    have := hf.le
    exact p10_in _ h (p39_in f n hf) (p40_in f n hf) (by simp; omega)
end Go.Proofs.Ytkdkdkkimieieaa
