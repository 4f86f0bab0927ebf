/- Desks: a list of maps, and a map. -/
import Derived.Test.YtkdkdkkimieieaaDKc
import Derived.Test.YtkdkdkkimieieaaLC
namespace Go.Proofs.Ytkdkdkkimieieaa
open Go.Kv
set_option linter.unusedVariables false
set_option linter.unusedSimpArgs false
attribute [local irreducible] ACall PCall KL
theorem subC_desk {w : PV} {m : List Int} (h : m.length = 6) : subC (w :: ints m) 1 6 = ints m := by
  unfold subC
  rw [if_neg (by omega), List.drop_succ_cons, List.drop_zero, List.take_of_length_le (by simp [ints_length, h])]
theorem subC_desk7 {w : PV} {m : List Int} (h : m.length = 6) : subC (w :: ints m) 0 7 = w :: ints m := by
  unfold subC
  rw [if_pos ⟨rfl, by simp [ints_length, h]⟩]
theorem put_tail {cs vs : List PV} {w : PV} (h : cs.length = 6) (h' : vs.length = 6) : putC (w :: cs) 1 vs = w :: vs := by
  unfold putC
  split
  · simp at h'
  · rw [if_neg (by omega), h', List.drop_eq_nil_of_le (by simp [h])]; simp
theorem put7 {cs vs : List PV} (h : cs.length = 7) (h' : vs.length = 7) : putC cs 0 vs = vs := by
  unfold putC
  split
  · simp at h'
  · rw [if_pos ⟨rfl, by omega⟩]
theorem putC_desk {w : PV} {m : List Int} (h : m.length = 6) : putC [w, .int .i64 0, .int .i64 0, .int .i64 0, .int .i64 0, .int .i64 0, .int .i64 0] 1 (ints m) = w :: ints m := put_tail rfl (by simp [ints_length, h])
theorem putC_desk7 {w z : PV} {m : List Int} (h : m.length = 6) : putC [z, .int .i64 0, .int .i64 0, .int .i64 0, .int .i64 0, .int .i64 0, .int .i64 0] 0 (w :: ints m) = w :: ints m := put7 rfl (by simp [ints_length, h])
theorem p26 (a b : List (List Int)) (m n : List Int) (ha : a.length ≤ 1048576) (hb : b.length ≤ 1048576) (ha6 : ∀ r ∈ a, r.length = 6) (hb6 : ∀ r ∈ b, r.length = 6) (hm : m.length = 6) (hn : n.length = 6) : Pure Try.prog 26 [.agg (.list (aggs a) :: ints m), .agg (.list (aggs b) :: ints n)] (.bool (decide (a = b) && decide (m = n))) := by
  refine e26 (by simp) fun _ _ => ?_
  simp only [k26, argEnv, hm, hn, subC_desk hm, subC_desk hn, take6, List.drop_zero, Int.cast_ofNat_Int, go_sem, ↓reduceIte, Nat.reduceEqDiff, Nat.reduceAdd, Nat.reduceMul, Nat.reduceLeDiff, Nat.reduceLT, Int.reduceLE, Int.reduceLT, reduceCtorEq]
  refine (p60 a b (by omega) (by omega) ha6 hb6).go ?_
  cases decide (a = b) with
  | false =>
    try simp only [hm, hn, subC_desk hm, subC_desk hn, take6, List.drop_zero, Int.cast_ofNat_Int, go_sem, ↓reduceIte, Nat.reduceEqDiff, Nat.reduceAdd, Nat.reduceMul, Nat.reduceLeDiff, Nat.reduceLT, Int.reduceLE, Int.reduceLT, reduceCtorEq]
    exact Kv.Fin.still ⟨rfl, rfl⟩
  | true =>
    try simp only [hm, hn, subC_desk hm, subC_desk hn, take6, List.drop_zero, Int.cast_ofNat_Int, go_sem, ↓reduceIte, Nat.reduceEqDiff, Nat.reduceAdd, Nat.reduceMul, Nat.reduceLeDiff, Nat.reduceLT, Int.reduceLE, Int.reduceLT, reduceCtorEq]
    refine (p61 m n hm hn).go ?_
    cases decide (m = n)
    · try simp only [take6, List.drop_zero, Int.cast_ofNat_Int, go_sem, ↓reduceIte, Nat.reduceEqDiff, Nat.reduceAdd, Nat.reduceMul, Nat.reduceLeDiff, Nat.reduceLT, Int.reduceLE, Int.reduceLT, reduceCtorEq]
      exact Kv.Fin.still ⟨rfl, rfl⟩
    · try simp only [take6, List.drop_zero, Int.cast_ofNat_Int, go_sem, ↓reduceIte, Nat.reduceEqDiff, Nat.reduceAdd, Nat.reduceMul, Nat.reduceLeDiff, Nat.reduceLT, Int.reduceLE, Int.reduceLT, reduceCtorEq]
      exact Kv.Fin.still ⟨rfl, rfl⟩
end Go.Proofs.Ytkdkdkkimieieaa
