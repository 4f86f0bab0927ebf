/- The identity of a table: both sides, and the law's function. -/
import Derived.Test.YtpepbomifjbgnaaCb
import Derived.Test.YtpepbomifjbgnaaT2
namespace Go.Proofs.Ytpepbomifjbgnaa
open Go.Kv
set_option maxRecDepth 100000
end Go.Proofs.Ytpepbomifjbgnaa
namespace Go.Proofs.Ytpepbomifjbgnaa
open Go.Kv
set_option linter.unusedVariables false
set_option linter.unusedSimpArgs false
attribute [local irreducible] ACall PCall KL
def tat (t : List (List Int)) (i j : Nat) : Int := (t.getD i []).getD j 0
def okE (t : List (List Int)) (e y : Nat) : Bool := (List.range y).all fun x => decide (tat t e x = x) && decide (tat t x e = x)
theorem okE_succ (t : List (List Int)) (e y : Nat) : okE t e (y + 1) = (okE t e y && (decide (tat t e y = y) && decide (tat t y e = y))) := by simp [okE, List.range_succ, List.all_append]
def idn (t : List (List Int)) : Int := idx (fun e => okE t e t.length) (List.range t.length)
theorem tab_sq {t : List (List Int)} (h : isTab t = true) : (1 ≤ t.length ∧ t.length ≤ 40) ∧ ∀ i, i < t.length → (t.getD i []).length = t.length := by
  simp only [isTab, Bool.and_eq_true, decide_eq_true_eq, List.all_eq_true] at h
  refine ⟨h.1, fun i hi => ?_⟩
  have := h.2 _ (rows_getD_len hi)
  simp only [rowOk, Bool.and_eq_true, decide_eq_true_eq] at this
  exact this.1
theorem tab_at {t : List (List Int)} (h : isTab t = true) {i j : Nat} (hi : i < t.length) (hj : j < t.length) : 0 ≤ tat t i j ∧ tat t i j ≤ (t.length : Int) - 1 := by
  have hs := (tab_sq h).2 i hi
  simp only [isTab, Bool.and_eq_true, decide_eq_true_eq, List.all_eq_true] at h
  have := h.2 _ (rows_getD_len hi)
  simp only [rowOk, Bool.and_eq_true, decide_eq_true_eq, List.all_eq_true] at this
  exact this.2 _ (by unfold tat; rw [getD_eq (l := t.getD i []) (by omega)]; exact List.getElem_mem _)
def idA (t : List (List Int)) : Int := if isTab t = true then (if idn t < 0 then 0 else idn t) else 0
def idB (t : List (List Int)) : Int := if isTab t = true then (if idn t < 0 then 4 else 0) else 2
theorem szT_ok (t : List (List Int)) (h : ¬ szT t 1048576 < 0) : t.length ≤ 1048576 ∧ ∀ r ∈ t, r.length ≤ 1048576 := by
  unfold szT at h
  split at h
  · omega
  · refine ⟨by omega, fun r hr => ?_⟩
    have := szR_rows t (1048576 - t.length) (by omega) (by omega) r hr
    omega
end Go.Proofs.Ytpepbomifjbgnaa
