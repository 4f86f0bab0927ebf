/- Numbers of commuting maps: both sides, and the law's function. -/
import Derived.Test.YtpepbomifjbgnaaCb
import Derived.Test.YtpepbomifjbgnaaG1
import Derived.Test.YtpepbomifjbgnaaG5
namespace Go.Proofs.Ytpepbomifjbgnaa
open Go.Kv
set_option maxRecDepth 100000
end Go.Proofs.Ytpepbomifjbgnaa
namespace Go.Proofs.Ytpepbomifjbgnaa
open Go.Kv
set_option linter.unusedVariables false
set_option linter.unusedSimpArgs false
attribute [local irreducible] ACall PCall KL
def comM (f : List Nat) (n : Nat) : List (List Nat) := (allM n).filter fun g => decide (mul f g = mul g f)
theorem allM_ok {n : Nat} (h1 : 1 ≤ n) (h5 : n ≤ 5) {g : List Nat} (h : g ∈ allM n) : Ok g n := by
  simp only [allM, List.mem_map] at h
  obtain ⟨k, _, rfl⟩ := h
  exact dg_ok h1 h5 k
end Go.Proofs.Ytpepbomifjbgnaa
