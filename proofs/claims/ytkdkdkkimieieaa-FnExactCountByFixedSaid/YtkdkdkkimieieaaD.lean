/- Counts by the number of fixed points: both sides walked. -/
import Derived.Test.YtkdkdkkimieieaaA
import Derived.Test.YtkdkdkkimieieaaB
namespace Go.Proofs.Ytkdkdkkimieieaa
open Go.Kv
set_option linter.unusedVariables false
set_option linter.unusedSimpArgs false
attribute [local irreducible] ACall PCall KL
def cbf (n x : Nat) : List Int := (List.range x).map fun k => ch n k * ((n - 1 : Nat) : Int) ^ (n - k)
theorem cbf_succ (n x : Nat) : cbf n x ++ [ch n x * ((n - 1 : Nat) : Int) ^ (n - x)] = cbf n (x + 1) := by simp [cbf, List.range_succ]
theorem cbf_bound : ∀ n < 13, ∀ x < 13, 1 ≤ n → x ≤ n → 0 ≤ ch n x * ((n - 1 : Nat) : Int) ^ (n - x) ∧ ch n x * ((n - 1 : Nat) : Int) ^ (n - x) ≤ 10000000000000000 := by decide
theorem p22_out (a : Int) (h : ¬ (1 ≤ a ∧ a ≤ 12)) : Pure Try.prog 22 [.int .i64 a] (.tup [.nils, .int .i64 2]) := by
  refine e22 (by simp) fun _ _ => ?_
  simp only [k22, argEnv, go_sem, ↓reduceIte, Nat.reduceEqDiff, Nat.reduceAdd, reduceCtorEq]
  refine (p51 a 1 12).use (.bool _) (.cons (.int _ _ _) (.cons (.int _ _ _) (.cons (.int _ _ _) (.nil _)))) ?_
  simp only [go_sem, ↓reduceIte, Nat.reduceEqDiff, Nat.reduceAdd, reduceCtorEq]
  simp only [h, not_false_eq_true, true_implies, not_true_eq_false, false_implies, and_true]
  exact Kv.Fin.now ⟨rfl, rfl⟩
theorem p22_in (n : Nat) (h : 1 ≤ n ∧ n ≤ 12) : NewI Try.prog 22 [.int .i64 n] 2 (cbf n (n + 1)) 0 := by
  refine ⟨n + 1, ?_⟩
  refine e22 (by simp) fun _ _ => ?_
  simp only [k22, argEnv, go_sem, ↓reduceIte, Nat.reduceEqDiff, Nat.reduceAdd, reduceCtorEq]
  refine (p51 n 1 12).use (.bool _) (.cons (.int _ _ _) (.cons (.int _ _ _) (.cons (.int _ _ _) (.nil _)))) ?_
  simp only [go_sem, ↓reduceIte, Nat.reduceEqDiff, Nat.reduceAdd, reduceCtorEq]
  have hin : (1 : Int) ≤ n ∧ (n : Int) ≤ 12 := by omega
  simp only [hin, not_true_eq_false, true_implies, false_implies, true_and, and_self]
  refine KL_ind k22_b0.eq_1 (fun x : Nat => [(5, .int .i64 x), (4, .ref 0 x 0 x), (0, .int .i64 n)]) (fun x => [.arr x 2 1 (ints (cbf n x))]) (fun x => x ≤ n + 1) (fun x => n + 1 - x) [5, 4, 0] 0 rfl (by simp [cbf, ints]) (Nat.zero_le _) fun x hi ih => ?_
  simp only [go_sem, ↓reduceIte, Nat.reduceEqDiff, Nat.reduceAdd, reduceCtorEq]
  have hx1 : ∀ hx : (x : Int) ≤ n, (n : Int) - 1 = ((n - 1 : Nat) : Int) ∧ (n : Int) - x = ((n - x : Nat) : Int) := fun hx => ⟨by omega, by omega⟩
  refine ⟨fun hx => ?_, fun hx => ?_⟩
  · have hb := cbf_bound n (by omega) x (by omega) (by omega) (by omega)
    refine (p52 n x (by omega) (by omega)).use (.int _ _) (.cons (.int _ _ _) (.cons (.int _ _ _) (.nil _))) ?_
    simp only [go_sem, ↓reduceIte, Nat.reduceEqDiff, Nat.reduceAdd, reduceCtorEq]
    rw [(hx1 (by omega)).1, (hx1 (by omega)).2]
    refine ⟨by omega, by omega, ?_⟩
    refine (p53 (n - 1) (n - x) (by omega) (by omega)).use (.int _ _) (.cons (.int _ _ _) (.cons (.int _ _ _) (.nil _))) ?_
    simp only [go_sem, ↓reduceIte, Nat.reduceEqDiff, Nat.reduceAdd, reduceCtorEq]
    refine ⟨by omega, ⟨by simp [cbf], by omega⟩, by omega, ?_⟩
    refine ih (x + 1) (by omega) (by omega) _ _ rfl ?_
    have hl : (cbf n x).length = x := by simp [cbf]
    rw [List.take_of_length_le (by omega), cbf_succ]
  · obtain rfl : x = n + 1 := by omega
    refine Kv.Fin.now ⟨?_, rfl⟩
    simp [cbf]
theorem p23_out (a : Int) (h : ¬ (1 ≤ a ∧ a ≤ 12)) : Pure Try.prog 23 [.int .i64 a] (.tup [.nils, .int .i64 2]) := by
  refine e23 (by simp) fun _ _ => ?_
  simp only [k23, argEnv, go_sem, ↓reduceIte, Nat.reduceEqDiff, Nat.reduceAdd, reduceCtorEq]
  refine (p54 a).use (.bool _) (.cons (.int _ _ _) (.nil _)) ?_
  simp only [go_sem, ↓reduceIte, Nat.reduceEqDiff, Nat.reduceAdd, reduceCtorEq]
  simp only [h, not_false_eq_true, true_implies, not_true_eq_false, false_implies, and_true]
  exact Kv.Fin.now ⟨rfl, rfl⟩
theorem p23_in (n : Nat) (h : 1 ≤ n ∧ n ≤ 12) : NewI Try.prog 23 [.int .i64 n] 2 (cbf n (n + 1)) 0 := by
  refine ⟨n, ?_⟩
  refine e23 (by simp) fun _ _ => ?_
  simp only [k23, argEnv, go_sem, ↓reduceIte, Nat.reduceEqDiff, Nat.reduceAdd, reduceCtorEq]
  refine (p54 n).use (.bool _) (.cons (.int _ _ _) (.nil _)) ?_
  simp only [go_sem, ↓reduceIte, Nat.reduceEqDiff, Nat.reduceAdd, reduceCtorEq]
  have hin : (1 : Int) ≤ n ∧ (n : Int) ≤ 12 := by omega
  simp only [hin, not_true_eq_false, true_implies, false_implies, true_and, and_self]
  refine ⟨by omega, ?_⟩
  refine KL_ind k23_b0.eq_1 (fun x : Nat => [(11, .int .i64 x), (4, if x = 0 then .nils else .ref 0 (x - 1) 0 x), (0, .int .i64 n), (10, .int .i64 (n + 1))]) (fun x => if x = 0 then [] else [.arr (x - 1) 2 1 (ints (cbf n x))]) (fun x => x ≤ n + 1) (fun x => n + 1 - x) [11, 4, 0, 10] 0 rfl (by simp) (Nat.zero_le _) fun x hi ih => ?_
  simp only [go_sem, ↓reduceIte, Nat.reduceEqDiff, Nat.reduceAdd, reduceCtorEq]
  have hx1 : ∀ hx : (x : Int) ≤ n, (n : Int) - 1 = ((n - 1 : Nat) : Int) ∧ (n : Int) - x = ((n - x : Nat) : Int) := fun hx => ⟨by omega, by omega⟩
  refine ⟨fun hx => ?_, fun hx => ?_⟩
  · have hb := cbf_bound n (by omega) x (by omega) (by omega) (by omega)
    refine (p55 n x (by omega) (by omega)).use (.int _ _) (.cons (.int _ _ _) (.cons (.int _ _ _) (.nil _))) ?_
    simp only [go_sem, ↓reduceIte, Nat.reduceEqDiff, Nat.reduceAdd, reduceCtorEq]
    rw [(hx1 (by omega)).1, (hx1 (by omega)).2]
    refine ⟨by omega, by omega, ?_⟩
    refine (p56 (n - 1) (n - x) (by omega) (by omega)).use (.int _ _) (.cons (.int _ _ _) (.cons (.int _ _ _) (.nil _))) ?_
    simp only [go_sem, ↓reduceIte, Nat.reduceEqDiff, Nat.reduceAdd, reduceCtorEq]
    refine ⟨by omega, ?_⟩
    rcases x with _ | x
    · simp only [go_sem, ↓reduceIte, Nat.reduceEqDiff, Nat.reduceAdd, reduceCtorEq]
      repeat' (first | refine And.intro ?_ ?_ | intro _)
      all_goals (try omega)
      refine ih 1 (by omega) (by omega) _ _ ?_ ?_
      · simp [keep]
      · simp [cbf, ints]
    · have hne : ¬ (x + 1 = 0) := by omega
      simp only [hne, if_false, Nat.add_sub_cancel]
      simp only [go_sem, ↓reduceIte, Nat.reduceEqDiff, Nat.reduceAdd, reduceCtorEq]
      have hl : (cbf n (x + 1)).length = x + 1 := by simp [cbf]
      refine ⟨⟨by omega, by omega⟩, by omega, ?_⟩
      refine ih (x + 1 + 1) (by omega) (by omega) _ _ rfl ?_
      rw [List.take_of_length_le (by omega), cbf_succ]
      rfl
  · obtain rfl : x = n + 1 := by omega
    have hne : ¬ (n + 1 = 0) := by omega
    simp only [hne, if_false]
    simp only [go_sem, ↓reduceIte, Nat.reduceEqDiff, Nat.reduceAdd, reduceCtorEq]
    refine Kv.Fin.now ⟨?_, ?_⟩ <;> simp [cbf]

end Go.Proofs.Ytkdkdkkimieieaa
