/- Counts by formula: choose, power, and the number of idempotents. -/
import Derived.Test.YtkdkdkkimieieaaAc
import Derived.Test.YtkdkdkkimieieaaW
namespace Go.Proofs.Ytkdkdkkimieieaa
open Go.Kv
set_option linter.unusedVariables false
set_option linter.unusedSimpArgs false
attribute [local irreducible] ACall PCall KL
theorem p54 (a : Int) : Pure Try.prog 54 [.int .i64 a] (.bool (decide (1 ≤ a ∧ a ≤ 12))) := by
  refine e54 (by simp) fun _ _ => ?_
  simp only [k54, argEnv, go_sem, ↓reduceIte, Nat.reduceEqDiff, Nat.reduceAdd, reduceCtorEq]
  refine (p91 a 1 12).use (.bool _) (.cons (.int _ _ _) (.cons (.int _ _ _) (.cons (.int _ _ _) (.nil _)))) ?_
  simp only [k54, argEnv, go_sem, ↓reduceIte, Nat.reduceEqDiff, Nat.reduceAdd, reduceCtorEq]
  exact Kv.Fin.now ⟨rfl, rfl⟩

def ch (n : Nat) : Nat → Int
  | 0 => 1
  | i + 1 => ch n i * ((n : Int) - i) / ((i : Int) + 1)
theorem ch_bound : ∀ n < 13, ∀ i < 13, i ≤ n → 1 ≤ ch n i ∧ ch n i ≤ 1000 := by decide
theorem p52 (n k : Nat) (hn : n ≤ 12) (hk : k ≤ n) : Pure Try.prog 52 [.int .i64 n, .int .i64 k] (.int .i64 (ch n k)) := by
  refine e52 (by simp) fun _ _ => ?_
  simp only [k52, argEnv, go_sem, ↓reduceIte, Nat.reduceEqDiff, Nat.reduceAdd, reduceCtorEq]
  refine KL_ind k52_b0.eq_1 (fun x : Nat => [(6, .int .i64 x), (5, .int .i64 (ch n x)), (0, .int .i64 n), (1, .int .i64 k)]) (fun _ => []) (fun x => x ≤ k) (fun x => k - x) [6, 5, 0, 1] 0 rfl rfl (Nat.zero_le _) fun x hi ih => ?_
  have hb := ch_bound n (by omega) x (by omega) (by omega)
  simp only [go_sem, ↓reduceIte, Nat.reduceEqDiff, Nat.reduceAdd, reduceCtorEq]
  refine ⟨fun h => ?_, fun h => ?_⟩
  · have hb2 : 0 ≤ ch n x * ((n : Int) - x) ∧ ch n x * ((n : Int) - x) ≤ 1000 * 12 := ⟨Int.mul_nonneg (by omega) (by omega), Int.mul_le_mul (by omega) (by omega) (by omega) (by omega)⟩
    have hb3 := ch_bound n (by omega) (x + 1) (by omega) (by omega)
    have e : ch n (x + 1) = ch n x * ((n : Int) - x) / ((x : Int) + 1) := rfl
    rw [e] at hb3
    refine ⟨by omega, by omega, by omega, by omega, by omega, by omega, ?_⟩
    exact ih (x + 1) (by omega) (by omega) _ _ rfl rfl
  · obtain rfl : x = k := by omega
    exact Kv.Fin.now ⟨rfl, rfl⟩
theorem p55 (n k : Nat) (hn : n ≤ 12) (hk : k ≤ n) : Pure Try.prog 55 [.int .i64 n, .int .i64 k] (.int .i64 (ch n k)) := by
  refine e55 (by simp) fun _ _ => ?_
  simp only [k55, argEnv, go_sem, ↓reduceIte, Nat.reduceEqDiff, Nat.reduceAdd, reduceCtorEq]
  refine KL_ind k55_b0.eq_1 (fun x : Nat => [(8, .int .i64 x), (5, .int .i64 (ch n x)), (0, .int .i64 n), (7, .int .i64 k)]) (fun _ => []) (fun x => x ≤ k) (fun x => k - x) [8, 5, 0, 7] 0 rfl rfl (Nat.zero_le _) fun x hi ih => ?_
  have hb := ch_bound n (by omega) x (by omega) (by omega)
  simp only [go_sem, ↓reduceIte, Nat.reduceEqDiff, Nat.reduceAdd, reduceCtorEq]
  refine ⟨fun h => ?_, fun h => ?_⟩
  · have hb2 : 0 ≤ ch n x * ((n : Int) - x) ∧ ch n x * ((n : Int) - x) ≤ 1000 * 12 := ⟨Int.mul_nonneg (by omega) (by omega), Int.mul_le_mul (by omega) (by omega) (by omega) (by omega)⟩
    have hb3 := ch_bound n (by omega) (x + 1) (by omega) (by omega)
    have e : ch n (x + 1) = ch n x * ((n : Int) - x) / ((x : Int) + 1) := rfl
    rw [e] at hb3
    refine ⟨by omega, by omega, by omega, by omega, by omega, by omega, ?_⟩
    exact ih (x + 1) (by omega) (by omega) _ _ rfl rfl
  · obtain rfl : x = k := by omega
    exact Kv.Fin.now ⟨rfl, rfl⟩
theorem pow_bound : ∀ b < 13, ∀ i < 13, 0 ≤ ((b : Nat) : Int) ^ i ∧ ((b : Nat) : Int) ^ i ≤ 10000000000000 := by decide
theorem p53 (b k : Nat) (hb : b ≤ 12) (hk : k ≤ 12) : Pure Try.prog 53 [.int .i64 b, .int .i64 k] (.int .i64 ((b : Int) ^ k)) := by
  refine e53 (by simp) fun _ _ => ?_
  simp only [k53, argEnv, go_sem, ↓reduceIte, Nat.reduceEqDiff, Nat.reduceAdd, reduceCtorEq]
  refine KL_ind k53_b0.eq_1 (fun x : Nat => [(5, .int .i64 ((b : Int) ^ x)), (0, .int .i64 b), (1, .int .i64 ((k : Int) - x))]) (fun _ => []) (fun x => x ≤ k) (fun x => k - x) [5, 0, 1] 0 (by simp [keep]) rfl (Nat.zero_le _) fun x hi ih => ?_
  have h1 := pow_bound b (by omega) x (by omega)
  simp only [go_sem, ↓reduceIte, Nat.reduceEqDiff, Nat.reduceAdd, reduceCtorEq]
  refine ⟨fun h => ?_, fun h => ?_⟩
  · have h2 := pow_bound b (by omega) (x + 1) (by omega)
    rw [Int.pow_succ] at h2
    refine ⟨by omega, by omega, ?_⟩
    exact ih (x + 1) (by omega) (by omega) _ _ (by simp [keep, Int.pow_succ]; omega) rfl
  · obtain rfl : x = k := by omega
    exact Kv.Fin.now ⟨rfl, rfl⟩
theorem p56 (b k : Nat) (hb : b ≤ 12) (hk : k ≤ 12) : Pure Try.prog 56 [.int .i64 b, .int .i64 k] (.int .i64 ((b : Int) ^ k)) := by
  refine e56 (by simp) fun _ _ => ?_
  simp only [k56, argEnv, go_sem, ↓reduceIte, Nat.reduceEqDiff, Nat.reduceAdd, reduceCtorEq]
  refine KL_ind k56_b0.eq_1 (fun x : Nat => [(7, .int .i64 x), (5, .int .i64 ((b : Int) ^ x)), (0, .int .i64 b), (6, .int .i64 k)]) (fun _ => []) (fun x => x ≤ k) (fun x => k - x) [7, 5, 0, 6] 0 rfl rfl (Nat.zero_le _) fun x hi ih => ?_
  have h1 := pow_bound b (by omega) x (by omega)
  simp only [go_sem, ↓reduceIte, Nat.reduceEqDiff, Nat.reduceAdd, reduceCtorEq]
  refine ⟨fun h => ?_, fun h => ?_⟩
  · have h2 := pow_bound b (by omega) (x + 1) (by omega)
    rw [Int.pow_succ] at h2
    refine ⟨by omega, by omega, ?_⟩
    exact ih (x + 1) (by omega) (by omega) _ _ rfl rfl
  · obtain rfl : x = k := by omega
    exact Kv.Fin.now ⟨rfl, rfl⟩

def si (n : Nat) : Nat → Int
  | 0 => 0
  | k + 1 => si n k + ch n (k + 1) * (((k + 1 : Nat) : Int) ^ (n - (k + 1)))
theorem si_bound : ∀ n < 13, ∀ i < 13, i ≤ n → 0 ≤ si n i ∧ si n i ≤ 100000000000000 := by decide
theorem term_bound : ∀ n < 13, ∀ i < 13, i ≤ n → 0 ≤ ch n i * ((i : Int) ^ (n - i)) ∧ ch n i * ((i : Int) ^ (n - i)) ≤ 100000000000000 := by decide
def cnt (a : Int) : Int := if 1 ≤ a ∧ a ≤ 12 then si a.toNat a.toNat else 0
def cerr (a : Int) : Int := if 1 ≤ a ∧ a ≤ 12 then 0 else 2
theorem p15 (a : Int) : Pure Try.prog 15 [.int .i64 a] (.tup [.int .i64 (cnt a), .int .i64 (cerr a)]) := by
  refine e15 (by simp) fun _ _ => ?_
  simp only [k15, argEnv, go_sem, ↓reduceIte, Nat.reduceEqDiff, Nat.reduceAdd, reduceCtorEq]
  refine (p51 a 1 12).use (.bool _) (.cons (.int _ _ _) (.cons (.int _ _ _) (.cons (.int _ _ _) (.nil _)))) ?_
  simp only [go_sem, ↓reduceIte, Nat.reduceEqDiff, Nat.reduceAdd, reduceCtorEq]
  refine ⟨fun h => ?_, fun h => ?_⟩
  · refine Kv.Fin.now ⟨?_, rfl⟩
    simp only [cnt, cerr, if_neg h]
  · obtain ⟨n, rfl⟩ : ∃ n : Nat, a = n := ⟨a.toNat, by omega⟩
    refine KL_ind k15_b0.eq_1 (fun x : Nat => [(5, .int .i64 (x + 1)), (4, .int .i64 (si n x)), (0, .int .i64 n)]) (fun _ => []) (fun x => x ≤ n) (fun x => n - x) [5, 4, 0] 0 (by simp [keep, si]) rfl (Nat.zero_le _) fun x hi ih => ?_
    have h1 := si_bound n (by omega) x (by omega) hi
    simp only [go_sem, ↓reduceIte, Nat.reduceEqDiff, Nat.reduceAdd, reduceCtorEq]
    refine ⟨fun hx => ?_, fun hx => ?_⟩
    · refine (p52 n (x + 1) (by omega) (by omega)).use (.int _ _) (.cons (.int _ _ _) (.cons (.int _ _ _) (.nil _))) ?_
      simp only [go_sem, ↓reduceIte, Nat.reduceEqDiff, Nat.reduceAdd, reduceCtorEq]
      refine ⟨by omega, ?_⟩
      have e : (n : Int) - (x + 1) = ((n - (x + 1) : Nat) : Int) := by omega
      rw [e]
      refine (p53 (x + 1) (n - (x + 1)) (by omega) (by omega)).use (.int _ _) (.cons (.int _ _ _) (.cons (.int _ _ _) (.nil _))) ?_
      simp only [go_sem, ↓reduceIte, Nat.reduceEqDiff, Nat.reduceAdd, reduceCtorEq]
      have h2 := si_bound n (by omega) (x + 1) (by omega) (by omega)
      have h3 := term_bound n (by omega) (x + 1) (by omega) (by omega)
      simp only [si] at h2
      refine ⟨by omega, by omega, by omega, ?_⟩
      exact ih (x + 1) (by omega) (by omega) _ _ rfl rfl
    · obtain rfl : x = n := by omega
      refine Kv.Fin.now ⟨?_, rfl⟩
      simp only [cnt, cerr, if_pos h, Int.toNat_natCast]
theorem p16 (a : Int) : Pure Try.prog 16 [.int .i64 a] (.tup [.int .i64 (cnt a), .int .i64 (cerr a)]) := by
  refine e16 (by simp) fun _ _ => ?_
  simp only [k16, argEnv, go_sem, ↓reduceIte, Nat.reduceEqDiff, Nat.reduceAdd, reduceCtorEq]
  refine (p54 a).use (.bool _) (.cons (.int _ _ _) (.nil _)) ?_
  simp only [go_sem, ↓reduceIte, Nat.reduceEqDiff, Nat.reduceAdd, reduceCtorEq]
  refine ⟨fun h => ?_, fun h => ?_⟩
  · refine Kv.Fin.now ⟨?_, rfl⟩
    simp only [cnt, cerr, if_neg h]
  · obtain ⟨n, rfl⟩ : ∃ n : Nat, a = n := ⟨a.toNat, by omega⟩
    refine KL_ind k16_b0.eq_1 (fun x : Nat => [(5, .int .i64 (x + 1)), (4, .int .i64 (si n x)), (0, .int .i64 n)]) (fun _ => []) (fun x => x ≤ n) (fun x => n - x) [5, 4, 0] 0 (by simp [keep, si]) rfl (Nat.zero_le _) fun x hi ih => ?_
    have h1 := si_bound n (by omega) x (by omega) hi
    simp only [go_sem, ↓reduceIte, Nat.reduceEqDiff, Nat.reduceAdd, reduceCtorEq]
    refine ⟨fun hx => ?_, fun hx => ?_⟩
    · refine (p55 n (x + 1) (by omega) (by omega)).use (.int _ _) (.cons (.int _ _ _) (.cons (.int _ _ _) (.nil _))) ?_
      simp only [go_sem, ↓reduceIte, Nat.reduceEqDiff, Nat.reduceAdd, reduceCtorEq]
      refine ⟨by omega, ?_⟩
      have e : (n : Int) - (x + 1) = ((n - (x + 1) : Nat) : Int) := by omega
      rw [e]
      refine (p56 (x + 1) (n - (x + 1)) (by omega) (by omega)).use (.int _ _) (.cons (.int _ _ _) (.cons (.int _ _ _) (.nil _))) ?_
      simp only [go_sem, ↓reduceIte, Nat.reduceEqDiff, Nat.reduceAdd, reduceCtorEq]
      have h2 := si_bound n (by omega) (x + 1) (by omega) (by omega)
      have h3 := term_bound n (by omega) (x + 1) (by omega) (by omega)
      simp only [si] at h2
      refine ⟨by omega, by omega, by omega, ?_⟩
      exact ih (x + 1) (by omega) (by omega) _ _ rfl rfl
    · obtain rfl : x = n := by omega
      refine Kv.Fin.now ⟨?_, rfl⟩
      simp only [cnt, cerr, if_pos h, Int.toNat_natCast]
theorem plain2 (a b : Int) : Plain (.tup [.int .i64 a, .int .i64 b]) := .tup fun c hc => by
  simp only [List.mem_cons, List.not_mem_nil, or_false] at hc
  rcases hc with rfl | rfl <;> exact .int _ _
theorem p3 (a : Int) : Pure Try.prog 3 [.int .i64 a] (.bool true) := by
  refine e3 (by simp) fun _ _ => ?_
  simp only [k3, argEnv, go_sem, ↓reduceIte, Nat.reduceEqDiff, Nat.reduceAdd, reduceCtorEq]
  refine (p15 a).use (plain2 _ _) (.cons (.int _ _ _) (.nil _)) ?_
  simp only [go_sem, ↓reduceIte, Nat.reduceEqDiff, Nat.reduceAdd, reduceCtorEq]
  refine (p16 a).use (plain2 _ _) (.cons (.int _ _ _) (.nil _)) ?_
  simp only [go_sem, ↓reduceIte, Nat.reduceEqDiff, Nat.reduceAdd, reduceCtorEq, decide_true, Bool.not_true, not_true_eq_false, false_implies, true_implies, and_true]
  exact Kv.Fin.now ⟨rfl, rfl⟩
end Go.Proofs.Ytkdkdkkimieieaa
