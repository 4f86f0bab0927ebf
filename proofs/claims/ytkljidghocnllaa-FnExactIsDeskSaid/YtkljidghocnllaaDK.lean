/- Desks: a list of maps, and a map. -/
import Derived.Test.YtkljidghocnllaaDKc
import Derived.Test.YtkljidghocnllaaLC
namespace Go.Proofs.Ytkljidghocnllaa
open Go.Kv
set_option linter.unusedVariables false
set_option linter.unusedSimpArgs false
attribute [local irreducible] ACall PCall KL
theorem subC_desk {w : PV} {m : List Int} (h : m.length = 6) : subC (w :: ints m) 1 6 = ints m := by
  unfold subC
  rw [if_neg (by omega), List.drop_succ_cons, List.drop_zero, List.take_of_length_le (by simp [ints_length, h])]
theorem subC_desk7 {w : PV} {m : List Int} (h : m.length = 6) : subC (w :: ints m) 0 7 = w :: ints m := by
  unfold subC
  rw [if_pos ⟨rfl, by simp [ints_length, h]⟩]
theorem put_tail {cs vs : List PV} {w : PV} (h : cs.length = 6) (h' : vs.length = 6) : putC (w :: cs) 1 vs = w :: vs := by
  unfold putC
  split
  · simp at h'
  · rw [if_neg (by omega), h', List.drop_eq_nil_of_le (by simp [h])]; simp
theorem put7 {cs vs : List PV} (h : cs.length = 7) (h' : vs.length = 7) : putC cs 0 vs = vs := by
  unfold putC
  split
  · simp at h'
  · rw [if_pos ⟨rfl, by omega⟩]
theorem putC_desk {w : PV} {m : List Int} (h : m.length = 6) : putC [w, .int .i64 0, .int .i64 0, .int .i64 0, .int .i64 0, .int .i64 0, .int .i64 0] 1 (ints m) = w :: ints m := put_tail rfl (by simp [ints_length, h])
theorem putC_desk7 {w z : PV} {m : List Int} (h : m.length = 6) : putC [z, .int .i64 0, .int .i64 0, .int .i64 0, .int .i64 0, .int .i64 0, .int .i64 0] 0 (w :: ints m) = w :: ints m := put7 rfl (by simp [ints_length, h])
theorem p18 (l : List (List Int)) (m : List Int) (k : Int) (hl : l.length ≤ 9223372036854775807) (hk : 0 ≤ k ∧ k ≤ 4294967296) (hm : m.length = 6) : Pure Try.prog 18 [.agg (.list (aggs l) :: ints m), .int .i64 k] (.int .i64 (if k - l.length < 0 then -1 else k - l.length)) := by
  refine e18 (by simp) fun _ _ => ?_
  simp only [k18, argEnv, hm, take6, List.drop_zero, Int.cast_ofNat_Int, go_sem, ↓reduceIte, Nat.reduceEqDiff, Nat.reduceAdd, Nat.reduceMul, Nat.reduceLeDiff, Nat.reduceLT, Int.reduceLE, Int.reduceLT, reduceCtorEq]
  refine (p37 l k hl hk).go ?_
  try simp only [take6, List.drop_zero, Int.cast_ofNat_Int, go_sem, ↓reduceIte, Nat.reduceEqDiff, Nat.reduceAdd, Nat.reduceMul, Nat.reduceLeDiff, Nat.reduceLT, Int.reduceLE, Int.reduceLT, reduceCtorEq]
  refine ⟨fun h => Kv.Fin.still ⟨?_, rfl⟩, fun h => Kv.Fin.still ⟨rfl, rfl⟩⟩
  by_cases h' : k - (l.length : Int) < 0
  · rw [if_pos h']
  · rw [if_neg h'] at h; omega
theorem p20 (l : List (List Int)) (m : List Int) (hl : l.length ≤ 1048576) (hl6 : ∀ r ∈ l, r.length = 6) (hm : m.length = 6) : Pure Try.prog 20 [.agg (.list (aggs l) :: ints m)] (.agg (.list (aggs l) :: ints m)) := by
  refine e20 (by simp) fun _ _ => ?_
  simp only [k20, argEnv, hm, subC_desk hm, take6, List.drop_zero, Int.cast_ofNat_Int, go_sem, ↓reduceIte, Nat.reduceEqDiff, Nat.reduceAdd, Nat.reduceMul, Nat.reduceLeDiff, Nat.reduceLT, Int.reduceLE, Int.reduceLT, reduceCtorEq]
  refine Pure.go (r := .list (aggs l)) (p39 l hl hl6) ?_
  try simp only [hm, subC_desk hm, take6, List.drop_zero, Int.cast_ofNat_Int, go_sem, ↓reduceIte, Nat.reduceEqDiff, Nat.reduceAdd, Nat.reduceMul, Nat.reduceLeDiff, Nat.reduceLT, Int.reduceLE, Int.reduceLT, reduceCtorEq]
  refine (p16 m hm).go ?_
  try simp only [hm, putC_desk hm, subC_desk7 hm, putC_desk7 hm, take6, List.drop_zero, Int.cast_ofNat_Int, go_sem, ↓reduceIte, Nat.reduceEqDiff, Nat.reduceAdd, Nat.reduceMul, Nat.reduceLeDiff, Nat.reduceLT, Int.reduceLE, Int.reduceLT, reduceCtorEq]
  exact Kv.Fin.still ⟨rfl, rfl⟩
theorem p22 (a b : List (List Int)) (m n : List Int) (ha : a.length ≤ 1048576) (hb : b.length ≤ 1048576) (ha6 : ∀ r ∈ a, r.length = 6) (hb6 : ∀ r ∈ b, r.length = 6) (hm : m.length = 6) (hn : n.length = 6) : Pure Try.prog 22 [.agg (.list (aggs a) :: ints m), .agg (.list (aggs b) :: ints n)] (.bool (decide (a = b) && decide (m = n))) := by
  refine e22 (by simp) fun _ _ => ?_
  simp only [k22, argEnv, hm, hn, subC_desk hm, subC_desk hn, take6, List.drop_zero, Int.cast_ofNat_Int, go_sem, ↓reduceIte, Nat.reduceEqDiff, Nat.reduceAdd, Nat.reduceMul, Nat.reduceLeDiff, Nat.reduceLT, Int.reduceLE, Int.reduceLT, reduceCtorEq]
  refine (p41 a b (by omega) (by omega) ha6 hb6).go ?_
  cases decide (a = b) with
  | false =>
    try simp only [hm, hn, subC_desk hm, subC_desk hn, take6, List.drop_zero, Int.cast_ofNat_Int, go_sem, ↓reduceIte, Nat.reduceEqDiff, Nat.reduceAdd, Nat.reduceMul, Nat.reduceLeDiff, Nat.reduceLT, Int.reduceLE, Int.reduceLT, reduceCtorEq]
    exact Kv.Fin.still ⟨rfl, rfl⟩
  | true =>
    try simp only [hm, hn, subC_desk hm, subC_desk hn, take6, List.drop_zero, Int.cast_ofNat_Int, go_sem, ↓reduceIte, Nat.reduceEqDiff, Nat.reduceAdd, Nat.reduceMul, Nat.reduceLeDiff, Nat.reduceLT, Int.reduceLE, Int.reduceLT, reduceCtorEq]
    refine (p30 m n hm hn).go ?_
    cases decide (m = n)
    · try simp only [take6, List.drop_zero, Int.cast_ofNat_Int, go_sem, ↓reduceIte, Nat.reduceEqDiff, Nat.reduceAdd, Nat.reduceMul, Nat.reduceLeDiff, Nat.reduceLT, Int.reduceLE, Int.reduceLT, reduceCtorEq]
      exact Kv.Fin.still ⟨rfl, rfl⟩
    · try simp only [take6, List.drop_zero, Int.cast_ofNat_Int, go_sem, ↓reduceIte, Nat.reduceEqDiff, Nat.reduceAdd, Nat.reduceMul, Nat.reduceLeDiff, Nat.reduceLT, Int.reduceLE, Int.reduceLT, reduceCtorEq]
      exact Kv.Fin.still ⟨rfl, rfl⟩
theorem p21 (l : List (List Int)) (m : List Int) (hl : l.length ≤ 1048576) (hl6 : ∀ r ∈ l, r.length = 6) (hm : m.length = 6) : Pure Try.prog 21 [.agg (.list (aggs l) :: ints m)] (.bool (decide (lcode l [m] = 0))) := by
  refine e21 (by simp) fun _ _ => ?_
  simp only [k21, argEnv, hm, subC_desk hm, take6, List.drop_zero, Int.cast_ofNat_Int, go_sem, ↓reduceIte, Nat.reduceEqDiff, Nat.reduceAdd, Nat.reduceMul, Nat.reduceLeDiff, Nat.reduceLT, Int.reduceLE, Int.reduceLT, reduceCtorEq]
  refine (p64 _ l [m] (.list _) hl (by simp) hl6 (by simpa using hm)).lend (.cons Imm.still (.cons (Imm.refa (l := [m]) rfl) (.nil _))) ?_
  try simp only [take6, List.drop_zero, Int.cast_ofNat_Int, go_sem, ↓reduceIte, Nat.reduceEqDiff, Nat.reduceAdd, Nat.reduceMul, Nat.reduceLeDiff, Nat.reduceLT, Int.reduceLE, Int.reduceLT, reduceCtorEq]
  exact Kv.Fin.still ⟨rfl, rfl⟩
theorem p19 (l : List (List Int)) (m : List Int) (hl : l.length ≤ 1048576) (hl6 : ∀ r ∈ l, r.length = 6) (hm : m.length = 6) : Pure Try.prog 19 [.agg (.list (aggs l) :: ints m)] (.bool (decide (lcode l [m] = 0))) := by
  refine e19 (by simp) fun _ _ => ?_
  simp only [k19, argEnv, hm, subC_desk hm, take6, List.drop_zero, Int.cast_ofNat_Int, go_sem, ↓reduceIte, Nat.reduceEqDiff, Nat.reduceAdd, Nat.reduceMul, Nat.reduceLeDiff, Nat.reduceLT, Int.reduceLE, Int.reduceLT, reduceCtorEq]
  refine (p63 l [m] hl (by simp) hl6 (by simpa using hm)).lend (.cons Imm.still (.cons (Imm.refa (l := [m]) rfl) (.nil _))) ?_
  try simp only [take6, List.drop_zero, Int.cast_ofNat_Int, go_sem, ↓reduceIte, Nat.reduceEqDiff, Nat.reduceAdd, Nat.reduceMul, Nat.reduceLeDiff, Nat.reduceLT, Int.reduceLE, Int.reduceLT, reduceCtorEq]
  exact Kv.Fin.still ⟨rfl, rfl⟩
theorem p4 (l : List (List Int)) (hl : l.length ≤ 9223372036854775807) (hl6 : ∀ r ∈ l, r.length = 6) (m : List Int) (hm : m.length = 6) : Pure Try.prog 4 [.agg (.list (aggs l) :: ints m)] (.bool true) := by
  refine e4 (by simp) fun _ _ => ?_
  simp only [k4, argEnv, hm, subC_desk7 hm, take6, List.drop_zero, Int.cast_ofNat_Int, go_sem, ↓reduceIte, Nat.reduceEqDiff, Nat.reduceAdd, Nat.reduceMul, Nat.reduceLeDiff, Nat.reduceLT, Int.reduceLE, Int.reduceLT, reduceCtorEq]
  refine (p18 l m _ hl (by omega) hm).go ?_
  try simp only [hm, subC_desk7 hm, take6, List.drop_zero, Int.cast_ofNat_Int, go_sem, ↓reduceIte, Nat.reduceEqDiff, Nat.reduceAdd, Nat.reduceMul, Nat.reduceLeDiff, Nat.reduceLT, Int.reduceLE, Int.reduceLT, reduceCtorEq]
  refine ⟨fun h => Kv.Fin.still ⟨rfl, rfl⟩, fun h => ?_⟩
  have hl' : l.length ≤ 1048576 := by
    by_cases h' : (1048576 : Int) - (l.length : Int) < 0
    · rw [if_pos h'] at h; omega
    · omega
  have h1 := p20 l m hl' hl6 hm
  refine h1.go ?_
  try simp only [hm, subC_desk7 hm, take6, List.drop_zero, Int.cast_ofNat_Int, go_sem, ↓reduceIte, Nat.reduceEqDiff, Nat.reduceAdd, Nat.reduceMul, Nat.reduceLeDiff, Nat.reduceLT, Int.reduceLE, Int.reduceLT, reduceCtorEq]
  refine (p19 l m hl' hl6 hm).go ?_
  try simp only [hm, subC_desk7 hm, take6, List.drop_zero, Int.cast_ofNat_Int, go_sem, ↓reduceIte, Nat.reduceEqDiff, Nat.reduceAdd, Nat.reduceMul, Nat.reduceLeDiff, Nat.reduceLT, Int.reduceLE, Int.reduceLT, reduceCtorEq]
  refine h1.go ?_
  try simp only [hm, subC_desk7 hm, putC_desk7 hm, take6, List.drop_zero, Int.cast_ofNat_Int, go_sem, ↓reduceIte, Nat.reduceEqDiff, Nat.reduceAdd, Nat.reduceMul, Nat.reduceLeDiff, Nat.reduceLT, Int.reduceLE, Int.reduceLT, reduceCtorEq]
  refine (p21 l m hl' hl6 hm).go ?_
  try simp only [hm, subC_desk7 hm, beq_self_eq_true, bne_self_eq_false, take6, List.drop_zero, Int.cast_ofNat_Int, go_sem, ↓reduceIte, Nat.reduceEqDiff, Nat.reduceAdd, Nat.reduceMul, Nat.reduceLeDiff, Nat.reduceLT, Int.reduceLE, Int.reduceLT, reduceCtorEq]
  refine h1.fgo ?_
  try simp only [hm, subC_desk7 hm, take6, List.drop_zero, Int.cast_ofNat_Int, go_sem, ↓reduceIte, Nat.reduceEqDiff, Nat.reduceAdd, Nat.reduceMul, Nat.reduceLeDiff, Nat.reduceLT, Int.reduceLE, Int.reduceLT, reduceCtorEq]
  refine (p22 l l m m hl' hl' hl6 hl6 hm hm).pgo ?_
  try simp only [decide_true, Bool.and_self, take6, List.drop_zero, Int.cast_ofNat_Int, go_sem, ↓reduceIte, Nat.reduceEqDiff, Nat.reduceAdd, Nat.reduceMul, Nat.reduceLeDiff, Nat.reduceLT, Int.reduceLE, Int.reduceLT, reduceCtorEq]
  exact Kv.Fin.still ⟨rfl, rfl⟩
end Go.Proofs.Ytkljidghocnllaa
