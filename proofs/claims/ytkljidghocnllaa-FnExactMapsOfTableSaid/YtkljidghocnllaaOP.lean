/- Opposite tables: both sides. -/
import Derived.Test.YtkljidghocnllaaOPc
import Derived.Test.YtkljidghocnllaaT3
import Derived.Test.YtkljidghocnllaaOT
namespace Go.Proofs.Ytkljidghocnllaa
open Go.Kv
set_option linter.unusedVariables false
set_option linter.unusedSimpArgs false
attribute [local irreducible] ACall PCall KL
def colL (t : List (List Int)) (a x : Nat) : List Int := (List.range x).map fun b => tat t b a
@[simp] theorem colL_length (t : List (List Int)) (a x : Nat) : (colL t a x).length = x := by simp [colL]
theorem colL_succ (t : List (List Int)) (a x : Nat) : colL t a x ++ [tat t x a] = colL t a (x + 1) := by simp [colL, List.range_succ]
def opp (t : List (List Int)) (x : Nat) : List (List Int) := (List.range x).map fun a => colL t a t.length
@[simp] theorem opp_length (t : List (List Int)) (x : Nat) : (opp t x).length = x := by simp [opp]
theorem opp_succ (t : List (List Int)) (x : Nat) : opp t x ++ [colL t x t.length] = opp t (x + 1) := by simp [opp, List.range_succ]
theorem p87 (t : List (List Int)) (h : isTab t = true) (a : Nat) (ha : a < t.length) : ACall Try.prog 87 [.list (rows t), .int .i64 a] [] (fun v s => v = .ref 0 (t.length - 1) 0 t.length ∧ s = [.arr (t.length - 1) 2 1 (ints (colL t a t.length))]) := by
  obtain ⟨hn, hsq⟩ := tab_sq h
  refine e87 (by simp) fun _ _ => ?_
  simp only [k87, argEnv, take6, List.drop_zero, Int.cast_ofNat_Int, go_sem, ↓reduceIte, Nat.reduceEqDiff, Nat.reduceAdd, Nat.reduceMul, Nat.reduceLeDiff, Nat.reduceLT, Int.reduceLE, Int.reduceLT, reduceCtorEq]
  refine KL_ind k87_b0.eq_1 (fun x : Nat => [(1, .int .i64 a), (5, nref 0 x), (8, .list (rows t)), (9, .int .i64 t.length), (10, .int .i64 x)]) (fun x => nhp [.arr (x - 1) 2 1 (ints (colL t a x))] x) (fun x => x ≤ t.length) (fun x => t.length - x) [1, 5, 8, 9, 10] 0 (by rfl) (by rfl) (Nat.zero_le _) fun x hx ih => ?_
  try simp only [take6, List.drop_zero, Int.cast_ofNat_Int, go_sem, ↓reduceIte, Nat.reduceEqDiff, Nat.reduceAdd, Nat.reduceMul, Nat.reduceLeDiff, Nat.reduceLT, Int.reduceLE, Int.reduceLT, reduceCtorEq]
  refine ⟨fun h1 => ⟨by omega, fun h2 => ?_⟩, fun h1 => ?_⟩
  · have hs := hsq x h2
    have e : (t.getD x []).getD a 0 = tat t x a := rfl
    rw [hs, e]
    rcases x with _ | x
    · try simp only [take6, List.drop_zero, Int.cast_ofNat_Int, go_sem, ↓reduceIte, Nat.reduceEqDiff, Nat.reduceAdd, Nat.reduceMul, Nat.reduceLeDiff, Nat.reduceLT, Int.reduceLE, Int.reduceLT, reduceCtorEq]
      repeat' (first | refine And.intro ?_ ?_ | intro _)
      all_goals (try omega)
      exact ih 1 (by omega) (by omega) _ _ (by rfl) (by rfl)
    · have hl := colL_length t a (x + 1)
      try simp only [hl, take6, List.drop_zero, Int.cast_ofNat_Int, go_sem, ↓reduceIte, Nat.reduceEqDiff, Nat.reduceAdd, Nat.reduceMul, Nat.reduceLeDiff, Nat.reduceLT, Int.reduceLE, Int.reduceLT, reduceCtorEq]
      repeat' (first | refine And.intro ?_ ?_ | intro _)
      all_goals (try omega)
      refine ih (x + 1 + 1) (by omega) (by omega) _ _ (by rfl) ?_
      rw [List.take_of_length_le (by omega), colL_succ]
      rfl
  · obtain rfl : x = t.length := by omega
    rw [nref_pos (by omega), nhp_pos (by omega)]
    exact Kv.Fin.now ⟨rfl, rfl⟩
end Go.Proofs.Ytkljidghocnllaa
