/- All maps of n points. -/
import Derived.Test.YtpepbomifjbgnaaCb
import Derived.Test.YtpepbomifjbgnaaA
import Derived.Test.YtpepbomifjbgnaaSlM
namespace Go.Proofs.Ytpepbomifjbgnaa
open Go.Kv
set_option maxRecDepth 100000
end Go.Proofs.Ytpepbomifjbgnaa
namespace Go.Proofs.Ytpepbomifjbgnaa
open Go.Kv
set_option linter.unusedVariables false
set_option linter.unusedSimpArgs false
attribute [local irreducible] ACall PCall KL
/-- The last j digits of k in base n, the greatest first. -/
def dg (n : Nat) : Nat → Nat → List Nat
  | 0, _ => []
  | j + 1, k => (k / n ^ j % n) :: dg n j k
@[simp] theorem dg_length (n : Nat) : ∀ j k, (dg n j k).length = j
  | 0, k => rfl
  | j + 1, k => by simp [dg, dg_length n j k]
theorem dg_lt {n : Nat} (hn : 1 ≤ n) : ∀ j k, ∀ x ∈ dg n j k, x < n
  | 0, k, x, h => by simp [dg] at h
  | j + 1, k, x, h => by
    simp only [dg, List.mem_cons] at h
    rcases h with rfl | h
    · exact Nat.mod_lt _ hn
    · exact dg_lt hn j k x h
theorem dg_ok {n : Nat} (h : 1 ≤ n) (h' : n ≤ 5) (k : Nat) : Ok (dg n n k) n := ⟨dg_length _ _ _, h, h', dg_lt h n k⟩
/-- All maps of n points, in order. -/
def allM (n : Nat) : List (List Nat) := (List.range (n ^ n)).map (dg n n)
def fstM (n x : Nat) : List (List Int) := (List.range x).map fun k => mp (dg n n k)
@[simp] theorem fstM_length (n x : Nat) : (fstM n x).length = x := by simp [fstM]
theorem fstM_succ (n x : Nat) : fstM n x ++ [mp (dg n n x)] = fstM n (x + 1) := by simp [fstM, List.range_succ]
theorem fstM_all (n : Nat) : fstM n (n ^ n) = (allM n).map mp := by simp [fstM, allM, Function.comp_def]
theorem nn_le : ∀ n < 6, n ^ n ≤ 3125 := by decide
theorem dg_step {n j k : Nat} (hj : j < n) : (List.replicate (n - j) 0 ++ dg n j k).set (n - j - 1) (k / n ^ j % n) = List.replicate (n - (j + 1)) 0 ++ dg n (j + 1) k := by
  have e : n - j = (n - (j + 1)) + 1 := by omega
  rw [e, List.replicate_succ', List.append_assoc, List.set_append_right _ _ (by simp)]
  simp [dg]
theorem pw_le {n : Nat} (h1 : 1 ≤ n) (h5 : n ≤ 5) {x : Nat} (hx : x ≤ n) : n ^ x ≤ 3125 := Nat.le_trans (Nat.pow_le_pow_right h1 hx) (nn_le n (by omega))
end Go.Proofs.Ytpepbomifjbgnaa
