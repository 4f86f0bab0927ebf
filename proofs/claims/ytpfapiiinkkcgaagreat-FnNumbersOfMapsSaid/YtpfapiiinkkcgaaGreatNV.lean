/- Numbers by rank and by fixed points add up. -/
import Derived.Test.YtpfapiiinkkcgaaGreatE
import Derived.Test.YtpfapiiinkkcgaaGreatD
namespace Go.Proofs.YtpfapiiinkkcgaaGreat
open Go.Kv
set_option linter.unusedVariables false
set_option linter.unusedSimpArgs false
attribute [local irreducible] ACall PCall KL
set_option maxRecDepth 100000 in
theorem cbr_all : ∀ n, n < 13 → 1 ≤ n → (cbr n).sum = (n : Int) ^ n ∧ (cbr n).length = n ∧ (cbr n).getD 0 0 = (n : Int) ∧ ∀ x ∈ cbr n, 0 ≤ x := by decide +kernel
set_option maxRecDepth 100000 in
theorem cbf_all : ∀ n, n < 13 → 1 ≤ n → (cbf n (n + 1)).sum = (n : Int) ^ n ∧ (cbf n (n + 1)).length = n + 1 ∧ ∀ x ∈ cbf n (n + 1), 0 ≤ x := by decide +kernel
theorem pow_nn : ∀ n : Nat, n < 13 → ∀ k, k < 13 → 0 ≤ (n : Int) ^ k ∧ (n : Int) ^ k ≤ 10000000000000 := by decide +kernel
theorem sum_take_le : ∀ (L : List Int) (k : Nat), (∀ x ∈ L, 0 ≤ x) → 0 ≤ (L.take k).sum ∧ (L.take k).sum ≤ L.sum
  | [], k, _ => by simp
  | a :: L, 0, h => by
    have h1 := h a (by simp)
    have h2 := sum_take_le L 0 fun x hx => h x (by simp [hx])
    simp only [List.take_zero, List.sum_nil, List.sum_cons] at h2 ⊢
    omega
  | a :: L, k + 1, h => by
    have h1 := h a (by simp)
    have h2 := sum_take_le L k fun x hx => h x (by simp [hx])
    simp only [List.take_succ_cons, List.sum_cons]
    omega
end Go.Proofs.YtpfapiiinkkcgaaGreat
