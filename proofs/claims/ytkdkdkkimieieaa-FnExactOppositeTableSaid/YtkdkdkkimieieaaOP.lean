/- Opposite tables: both sides. -/
import Derived.Test.YtkdkdkkimieieaaOPc
import Derived.Test.YtkdkdkkimieieaaT3
import Derived.Test.YtkdkdkkimieieaaOT
namespace Go.Proofs.Ytkdkdkkimieieaa
open Go.Kv
set_option linter.unusedVariables false
set_option linter.unusedSimpArgs false
attribute [local irreducible] ACall PCall KL
def colL (t : List (List Int)) (a x : Nat) : List Int := (List.range x).map fun b => tat t b a
@[simp] theorem colL_length (t : List (List Int)) (a x : Nat) : (colL t a x).length = x := by simp [colL]
theorem colL_succ (t : List (List Int)) (a x : Nat) : colL t a x ++ [tat t x a] = colL t a (x + 1) := by simp [colL, List.range_succ]
def opp (t : List (List Int)) (x : Nat) : List (List Int) := (List.range x).map fun a => colL t a t.length
@[simp] theorem opp_length (t : List (List Int)) (x : Nat) : (opp t x).length = x := by simp [opp]
theorem opp_succ (t : List (List Int)) (x : Nat) : opp t x ++ [colL t x t.length] = opp t (x + 1) := by simp [opp, List.range_succ]
theorem p88 (t : List (List Int)) (h : isTab t = true) (a : Nat) (ha : a < t.length) : ACall Try.prog 88 [.list (rows t), .int .i64 a] [] (fun v s => v = .ref 0 (t.length - 1) 0 t.length ∧ s = [.arr (t.length - 1) 2 1 (ints (colL t a t.length))]) := by
  obtain ⟨hn, hsq⟩ := tab_sq h
  refine e88 (by simp) fun _ _ => ?_
  simp only [k88, argEnv, take6, List.drop_zero, go_sem, ↓reduceIte, Nat.reduceEqDiff, Nat.reduceAdd, Nat.reduceMul, Nat.reduceLeDiff, Nat.reduceLT, Int.reduceLE, Int.reduceLT, reduceCtorEq]
  refine KL_ind k88_b0.eq_1 (fun x : Nat => [(1, .int .i64 a), (5, nref 0 x), (8, .list (rows t)), (9, .int .i64 t.length), (10, .int .i64 x)]) (fun x => nhp [.arr (x - 1) 2 1 (ints (colL t a x))] x) (fun x => x ≤ t.length) (fun x => t.length - x) [1, 5, 8, 9, 10] 0 (by rfl) (by rfl) (Nat.zero_le _) fun x hx ih => ?_
  simp only [take6, List.drop_zero, go_sem, ↓reduceIte, Nat.reduceEqDiff, Nat.reduceAdd, Nat.reduceMul, Nat.reduceLeDiff, Nat.reduceLT, Int.reduceLE, Int.reduceLT, reduceCtorEq]
  refine ⟨fun h1 => ⟨by omega, fun h2 => ?_⟩, fun h1 => ?_⟩
  · have hs := hsq x h2
    have e : (t.getD x []).getD a 0 = tat t x a := rfl
    rw [hs, e]
    rcases x with _ | x
    · simp only [take6, List.drop_zero, go_sem, ↓reduceIte, Nat.reduceEqDiff, Nat.reduceAdd, Nat.reduceMul, Nat.reduceLeDiff, Nat.reduceLT, Int.reduceLE, Int.reduceLT, reduceCtorEq]
      repeat' (first | refine And.intro ?_ ?_ | intro _)
      all_goals (try omega)
      exact ih 1 (by omega) (by omega) _ _ (by rfl) (by rfl)
    · have hl := colL_length t a (x + 1)
      simp only [hl, take6, List.drop_zero, go_sem, ↓reduceIte, Nat.reduceEqDiff, Nat.reduceAdd, Nat.reduceMul, Nat.reduceLeDiff, Nat.reduceLT, Int.reduceLE, Int.reduceLT, reduceCtorEq]
      repeat' (first | refine And.intro ?_ ?_ | intro _)
      all_goals (try omega)
      refine ih (x + 1 + 1) (by omega) (by omega) _ _ (by rfl) ?_
      rw [List.take_of_length_le (by omega), colL_succ]
      rfl
  · obtain rfl : x = t.length := by omega
    rw [nref_pos (by omega), nhp_pos (by omega)]
    exact Kv.Fin.now ⟨rfl, rfl⟩
theorem p45_in (t : List (List Int)) (ht : t.length ≤ 1048576) (hl : ∀ r ∈ t, r.length ≤ 1048576) (h : isTab t = true) : NewTN Try.prog 45 [.list (rows t)] 25 2 (opp t t.length) 0 := by
  obtain ⟨hn, hsq⟩ := tab_sq h
  unfold NewTN
  refine e45 (by simp) fun _ _ => ?_
  simp only [k45, argEnv, take6, List.drop_zero, go_sem, ↓reduceIte, Nat.reduceEqDiff, Nat.reduceAdd, Nat.reduceMul, Nat.reduceLeDiff, Nat.reduceLT, Int.reduceLE, Int.reduceLT, reduceCtorEq]
  refine (p77 t ht hl).go ?_
  rw [h]
  simp only [take6, List.drop_zero, go_sem, ↓reduceIte, Nat.reduceEqDiff, Nat.reduceAdd, Nat.reduceMul, Nat.reduceLeDiff, Nat.reduceLT, Int.reduceLE, Int.reduceLT, reduceCtorEq]
  refine KL_ind k45_b0.eq_1 (fun x : Nat × PV × Heap => [(0, .list (rows t)), (4, x.2.1), (10, .int .i64 t.length), (11, .int .i64 x.1)]) (fun x => x.2.2) (fun x => x.1 ≤ t.length ∧ TabN 25 2 x.2.2 x.2.1 (opp t x.1) ∧ Free x.2.2) (fun x => t.length - x.1) [0, 4, 10, 11] (0, .nils, []) (by rfl) (by rfl) ⟨Nat.zero_le _, .nil, .nil⟩ fun ⟨x, v, σ⟩ ⟨hx, hT, hf⟩ ih => ?_
  simp only at hx hT hf
  simp only [take6, List.drop_zero, go_sem, ↓reduceIte, Nat.reduceEqDiff, Nat.reduceAdd, Nat.reduceMul, Nat.reduceLeDiff, Nat.reduceLT, Int.reduceLE, Int.reduceLT, reduceCtorEq]
  refine ⟨fun h1 => ?_, fun h1 => ?_⟩
  · simp only [OpK_eq, take6, List.drop_zero, go_sem, ↓reduceIte, Nat.reduceEqDiff, Nat.reduceAdd, Nat.reduceMul, Nat.reduceLeDiff, Nat.reduceLT, Int.reduceLE, Int.reduceLT, reduceCtorEq]
    refine (p88 t h x (by omega)).go fun v' s' ⟨hv, hs⟩ => ?_
    subst hv; subst hs
    simp only [ren_ref, take6, List.drop_zero, go_sem, ↓reduceIte, Nat.reduceEqDiff, Nat.reduceAdd, Nat.reduceMul, Nat.reduceLeDiff, Nat.reduceLT, Int.reduceLE, Int.reduceLT, reduceCtorEq]
    refine hT.pushRow hf (colL t x t.length) (by simp) (by simp; omega) fun v' σ' hT' hf' => ?_
    simp only [OpK_eq, take6, List.drop_zero, go_sem, ↓reduceIte, Nat.reduceEqDiff, Nat.reduceAdd, Nat.reduceMul, Nat.reduceLeDiff, Nat.reduceLT, Int.reduceLE, Int.reduceLT, reduceCtorEq]
    repeat' (first | refine And.intro ?_ ?_ | intro _)
    all_goals (try omega)
    refine ih (x + 1, v', σ') ⟨by show x + 1 ≤ t.length; omega, ?_, hf'⟩ (by show t.length - (x + 1) < t.length - x; omega) _ _ (by rfl) rfl
    rw [← opp_succ]; exact hT'
  · obtain rfl : x = t.length := by omega
    simp only [OpK_eq, take6, List.drop_zero, go_sem, ↓reduceIte, Nat.reduceEqDiff, Nat.reduceAdd, Nat.reduceMul, Nat.reduceLeDiff, Nat.reduceLT, Int.reduceLE, Int.reduceLT, reduceCtorEq]
    exact Kv.Fin.now ⟨v, rfl, hT, hf⟩
theorem p44_in (t : List (List Int)) (ht : t.length ≤ 1048576) (hl : ∀ r ∈ t, r.length ≤ 1048576) (h : isTab t = true) : Pure Try.prog 44 [.list (rows t)] (.tup [.list (rows (opp t t.length)), .int .i64 0]) := by
  obtain ⟨hn, hsq⟩ := tab_sq h
  refine e44 (by simp) fun _ _ => ?_
  simp only [k44, argEnv, take6, List.drop_zero, go_sem, ↓reduceIte, Nat.reduceEqDiff, Nat.reduceAdd, Nat.reduceMul, Nat.reduceLeDiff, Nat.reduceLT, Int.reduceLE, Int.reduceLT, reduceCtorEq]
  refine (p74 t ht hl).go ?_
  rw [h]
  simp only [take6, List.drop_zero, go_sem, ↓reduceIte, Nat.reduceEqDiff, Nat.reduceAdd, Nat.reduceMul, Nat.reduceLeDiff, Nat.reduceLT, Int.reduceLE, Int.reduceLT, reduceCtorEq]
  refine KL_ind k44_b1.eq_1 (fun x : Nat × PV × Heap => [(0, .list (rows t)), (4, x.2.1), (5, .int .i64 x.1)]) (fun x => x.2.2) (fun x => x.1 ≤ t.length ∧ TabN 25 2 x.2.2 x.2.1 (opp t x.1) ∧ Free x.2.2) (fun x => t.length - x.1) [0, 4, 5] (0, .ref 0 0 0 0, [.arr 0 25 1 []]) (by rfl) (by rfl) ⟨Nat.zero_le _, .empty, .empty _ _ _⟩ fun ⟨x, v, σ⟩ ⟨hx, hT, hf⟩ ih => ?_
  simp only at hx hT hf
  simp only [take6, List.drop_zero, go_sem, ↓reduceIte, Nat.reduceEqDiff, Nat.reduceAdd, Nat.reduceMul, Nat.reduceLeDiff, Nat.reduceLT, Int.reduceLE, Int.reduceLT, reduceCtorEq]
  refine ⟨fun h1 => ?_, fun h1 => ?_⟩
  · refine KL_ind k44_b0.eq_1 (fun y : Nat => [(0, .list (rows t)), (4, v), (5, .int .i64 x), (6, .ref σ.length y 0 y), (7, .int .i64 y)]) (fun y => σ ++ [.arr y 2 1 (ints (colL t x y))]) (fun y => y ≤ t.length) (fun y => t.length - y) [0, 4, 5, 6, 7] 0 (by rfl) (by rfl) (Nat.zero_le _) fun y hy ihy => ?_
    have hnew := hp_new (rfl : σ.length = σ.length)
    have hset := hp_setn (rfl : σ.length = σ.length)
    have hl := colL_length t x y
    simp only [hnew, hset, hl, take6, List.drop_zero, go_sem, ↓reduceIte, Nat.reduceEqDiff, Nat.reduceAdd, Nat.reduceMul, Nat.reduceLeDiff, Nat.reduceLT, Int.reduceLE, Int.reduceLT, reduceCtorEq]
    refine ⟨fun h2 => ⟨by omega, fun h3 => ?_⟩, fun h2 => ?_⟩
    · have hs := hsq y h3
      have e : (t.getD y []).getD x 0 = tat t y x := rfl
      rw [hs, e]
      repeat' (first | refine And.intro ?_ ?_ | intro _)
      all_goals (try omega)
      refine ihy (y + 1) (by omega) (by omega) _ _ (by rfl) ?_
      rw [List.take_of_length_le (by omega), colL_succ]
    · obtain rfl : y = t.length := by omega
      simp only [OpK_eq, take6, List.drop_zero, go_sem, ↓reduceIte, Nat.reduceEqDiff, Nat.reduceAdd, Nat.reduceMul, Nat.reduceLeDiff, Nat.reduceLT, Int.reduceLE, Int.reduceLT, reduceCtorEq]
      refine hT.pushRow hf (colL t x t.length) (by simp) (by simp; omega) fun v' σ' hT' hf' => ?_
      simp only [OpK_eq, take6, List.drop_zero, go_sem, ↓reduceIte, Nat.reduceEqDiff, Nat.reduceAdd, Nat.reduceMul, Nat.reduceLeDiff, Nat.reduceLT, Int.reduceLE, Int.reduceLT, reduceCtorEq]
      repeat' (first | refine And.intro ?_ ?_ | intro _)
      all_goals (try omega)
      refine ih (x + 1, v', σ') ⟨by show x + 1 ≤ t.length; omega, ?_, hf'⟩ (by show t.length - (x + 1) < t.length - x; omega) _ _ (by rfl) rfl
      rw [← opp_succ]; exact hT'
  · obtain rfl : x = t.length := by omega
    simp only [OpK_eq, take6, List.drop_zero, go_sem, ↓reduceIte, Nat.reduceEqDiff, Nat.reduceAdd, Nat.reduceMul, Nat.reduceLeDiff, Nat.reduceLT, Int.reduceLE, Int.reduceLT, reduceCtorEq]
    exact hT.freeze ⟨rfl, rfl⟩
theorem p45_out (t : List (List Int)) (ht : t.length ≤ 1048576) (hl : ∀ r ∈ t, r.length ≤ 1048576) (h : isTab t = false) : Pure Try.prog 45 [.list (rows t)] (.tup [.nils, .int .i64 2]) := by
  refine e45 (by simp) fun _ _ => ?_
  simp only [k45, argEnv, take6, List.drop_zero, go_sem, ↓reduceIte, Nat.reduceEqDiff, Nat.reduceAdd, Nat.reduceMul, Nat.reduceLeDiff, Nat.reduceLT, Int.reduceLE, Int.reduceLT, reduceCtorEq]
  refine (p77 t ht hl).go ?_
  rw [h]
  simp only [take6, List.drop_zero, go_sem, ↓reduceIte, Nat.reduceEqDiff, Nat.reduceAdd, Nat.reduceMul, Nat.reduceLeDiff, Nat.reduceLT, Int.reduceLE, Int.reduceLT, reduceCtorEq]
  exact Kv.Fin.still ⟨rfl, rfl⟩
theorem p44_out (t : List (List Int)) (ht : t.length ≤ 1048576) (hl : ∀ r ∈ t, r.length ≤ 1048576) (h : isTab t = false) : Pure Try.prog 44 [.list (rows t)] (.tup [.nils, .int .i64 2]) := by
  refine e44 (by simp) fun _ _ => ?_
  simp only [k44, argEnv, take6, List.drop_zero, go_sem, ↓reduceIte, Nat.reduceEqDiff, Nat.reduceAdd, Nat.reduceMul, Nat.reduceLeDiff, Nat.reduceLT, Int.reduceLE, Int.reduceLT, reduceCtorEq]
  refine (p74 t ht hl).go ?_
  rw [h]
  simp only [take6, List.drop_zero, go_sem, ↓reduceIte, Nat.reduceEqDiff, Nat.reduceAdd, Nat.reduceMul, Nat.reduceLeDiff, Nat.reduceLT, Int.reduceLE, Int.reduceLT, reduceCtorEq]
  exact Kv.Fin.still ⟨rfl, rfl⟩
end Go.Proofs.Ytkdkdkkimieieaa
