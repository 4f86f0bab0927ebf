/- Maps: cyclic points, ends, cycles, powers, images. -/
import Derived.Test.YtpepbomifjbgnaaCb
import Derived.Test.YtpepbomifjbgnaaMA
import Derived.Test.YtpepbomifjbgnaaIt
import Derived.Test.YtpepbomifjbgnaaFC
import Derived.Test.YtpepbomifjbgnaaSq
namespace Go.Proofs.Ytpepbomifjbgnaa
open Go.Kv
set_option maxRecDepth 100000
end Go.Proofs.Ytpepbomifjbgnaa
namespace Go.Proofs.Ytpepbomifjbgnaa
open Go.Kv
set_option linter.unusedVariables false
set_option linter.unusedSimpArgs false
attribute [local irreducible] ACall PCall KL
/-- The first steps from p. -/
def its (f : List Nat) (p m : Nat) : List Int := (List.range m).map fun k => (it f k p : Int)
@[simp] theorem its_length (f : List Nat) (p m : Nat) : (its f p m).length = m := by simp [its]
theorem its_succ (f : List Nat) (p m : Nat) : its f p m ++ [(it f m p : Int)] = its f p (m + 1) := by simp [its, List.range_succ]
/-- The least of the first ones. -/
def mnl (l : List Int) : Nat → Int
  | 0 => l.getD 0 0
  | x + 1 => min (mnl l x) (l.getD (x + 1) 0)
theorem mnl_its (f : List Nat) (p m : Nat) : ∀ x, x < m → mnl (its f p m) x = (lo f p x : Int)
  | 0, h => by simp [mnl, its, lo, h, it]
  | x + 1, h => by
    have e : (its f p m).getD (x + 1) 0 = (it f (x + 1) p : Int) := by simp [its, h]
    simp only [mnl, lo, mnl_its f p m x (by omega), e]
    omega
end Go.Proofs.Ytpepbomifjbgnaa
