/- Counts by formula: choose, power, and the number of idempotents. -/
import Derived.Test.YtpepbomifjbgnaaCb
import Derived.Test.YtpepbomifjbgnaaW
namespace Go.Proofs.Ytpepbomifjbgnaa
open Go.Kv
set_option maxRecDepth 100000
end Go.Proofs.Ytpepbomifjbgnaa
namespace Go.Proofs.Ytpepbomifjbgnaa
open Go.Kv
set_option linter.unusedVariables false
set_option linter.unusedSimpArgs false
attribute [local irreducible] ACall PCall KL
def ch (n : Nat) : Nat → Int
  | 0 => 1
  | i + 1 => ch n i * ((n : Int) - i) / ((i : Int) + 1)
theorem ch_bound : ∀ n < 13, ∀ i < 13, i ≤ n → 1 ≤ ch n i ∧ ch n i ≤ 1000 := by decide
theorem pow_bound : ∀ b < 13, ∀ i < 13, 0 ≤ ((b : Nat) : Int) ^ i ∧ ((b : Nat) : Int) ^ i ≤ 10000000000000 := by decide
def si (n : Nat) : Nat → Int
  | 0 => 0
  | k + 1 => si n k + ch n (k + 1) * (((k + 1 : Nat) : Int) ^ (n - (k + 1)))
theorem si_bound : ∀ n < 13, ∀ i < 13, i ≤ n → 0 ≤ si n i ∧ si n i ≤ 100000000000000 := by decide
theorem term_bound : ∀ n < 13, ∀ i < 13, i ≤ n → 0 ≤ ch n i * ((i : Int) ^ (n - i)) ∧ ch n i * ((i : Int) ^ (n - i)) ≤ 100000000000000 := by decide
def cnt (a : Int) : Int := if 1 ≤ a ∧ a ≤ 12 then si a.toNat a.toNat else 0
def cerr (a : Int) : Int := if 1 ≤ a ∧ a ≤ 12 then 0 else 2
theorem plain2 (a b : Int) : Plain (.tup [.int .i64 a, .int .i64 b]) := .tup fun c hc => by
  simp only [List.mem_cons, List.not_mem_nil, or_false] at hc
  rcases hc with rfl | rfl <;> exact .int _ _
end Go.Proofs.Ytpepbomifjbgnaa
