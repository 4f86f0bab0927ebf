/- The symmetries of a table, counted: the specification's side. -/
import Derived.Test.YtpepbomifjbgnaaCb
import Derived.Test.YtpepbomifjbgnaaT3
import Derived.Test.YtpepbomifjbgnaaCL
namespace Go.Proofs.Ytpepbomifjbgnaa
open Go.Kv
set_option maxRecDepth 100000
/- spec.l01Own -/
def k122 : KC := (.seq (.ops [⟨(some 2), none, .mv (.c (.nils))⟩])
  (.seq (.ops [⟨(some 3), none, .bsl false 2 1 []⟩, ⟨(some 4), none, .mv (.t 0)⟩, ⟨(some 5), none, .app (.t 3) (.t 4) 2 1⟩, ⟨(some 2), none, .mv (.t 5)⟩])
  .ret))
theorem e122 {args : List PV} {σ : Heap} {K : PV → Heap → Prop} (hl : args.length ≤ 6) (h : Wf σ → (∀ a ∈ args, PV.upto σ.length a) → vc (mkCfg Try.prog mixed [] 6 σ.length) k122 (FinK σ.length [.t 2] K) (argEnv 0 args) σ) : ACall Try.prog 122 args σ K :=
  ACall_enter (C := mkCfg Try.prog mixed [] 6 σ.length) (c := Try.f122.body.getD .skip) Try.func122 (by kernel_rfl) (by kernel_rfl) (by kernel_rfl) rfl hl (by kernel_rfl) (by kernel_rfl) h
end Go.Proofs.Ytpepbomifjbgnaa
namespace Go.Proofs.Ytpepbomifjbgnaa
open Go.Kv
set_option linter.unusedVariables false
set_option linter.unusedSimpArgs false
attribute [local irreducible] ACall PCall KL
/-- Products agree where all three are told. -/
def fit1 (a b : List (List Int)) (p : List Nat) (i k : Nat) : Prop := tat a i k < p.length → (p.getD (tat a i k).toNat 0 : Int) = tat b (p.getD i 0) (p.getD k 0)
def Fits (a b : List (List Int)) (p : List Nat) : Prop := (∀ i, i + 1 < p.length → p.getD i 0 ≠ p.getD (p.length - 1) 0) ∧ ∀ i k, i < p.length → k < p.length → fit1 a b p i k
noncomputable def fitsB (a b : List (List Int)) (p : List Nat) : Bool := @decide (Fits a b p) (Classical.propDecidable _)
theorem fitsB_true {a b : List (List Int)} {p : List Nat} (h : Fits a b p) : fitsB a b p = true := by
  unfold fitsB; exact @decide_eq_true _ (Classical.propDecidable _) h
theorem fitsB_false {a b : List (List Int)} {p : List Nat} (h : ¬ Fits a b p) : fitsB a b p = false := by
  unfold fitsB; exact @decide_eq_false _ (Classical.propDecidable _) h
theorem p122 (l : List Int) (hl : l.length ≤ 1048576) : ACall Try.prog 122 [.list (ints l)] [] (fun v s => v = .ref 0 1 0 l.length ∧ s = [.arr 1 2 1 (ints l)]) := by
  refine e122 (by simp) fun _ _ => ?_
  simp only [k122, argEnv, take6, List.drop_zero, Int.cast_ofNat_Int, go_sem, ↓reduceIte, Nat.reduceEqDiff, Nat.reduceAdd, Nat.reduceMul, Nat.reduceLeDiff, Nat.reduceLT, Int.reduceLE, Int.reduceLT, reduceCtorEq]
  repeat' (first | refine And.intro ?_ ?_ | intro _)
  all_goals (try omega)
  exact Kv.Fin.now ⟨rfl, rfl⟩
/-- The number of symmetries that begin with p, d numbers being left. -/
noncomputable def syc (a : List (List Int)) : Nat → List Nat → Nat
  | 0, _ => 1
  | d + 1, p => ((List.range a.length).map fun q => if fitsB a a (p ++ [q]) = true then syc a d (p ++ [q]) else 0).sum
noncomputable def sycN (a : List (List Int)) (d : Nat) (p : List Nat) (x : Nat) : Nat := ((List.range x).map fun q => if fitsB a a (p ++ [q]) = true then syc a d (p ++ [q]) else 0).sum
theorem sycN_succ (a : List (List Int)) (d : Nat) (p : List Nat) (x : Nat) : sycN a d p (x + 1) = sycN a d p x + if fitsB a a (p ++ [x]) = true then syc a d (p ++ [x]) else 0 := by
  simp [sycN, List.range_succ, List.sum_append]
theorem syc_le (a : List (List Int)) : ∀ (d : Nat) (p : List Nat), syc a d p ≤ a.length ^ d ∧ ∀ x, sycN a d p x ≤ x * a.length ^ d
  | 0, p => by
    have h0 : ∀ q, syc a 0 q = 1 := fun q => rfl
    refine ⟨by rw [h0]; simp, fun x => ?_⟩
    induction x with
    | zero => simp [sycN]
    | succ x ih =>
      rw [sycN_succ, Nat.succ_mul, h0]
      simp only [Nat.pow_zero] at ih ⊢
      split <;> omega
  | d + 1, p => by
    have h1 : syc a (d + 1) p ≤ a.length ^ (d + 1) := by
      have := (syc_le a d p).2 a.length
      rw [Nat.pow_succ, Nat.mul_comm]
      exact this
    refine ⟨h1, fun x => ?_⟩
    induction x with
    | zero => simp [sycN]
    | succ x ih =>
      rw [sycN_succ, Nat.succ_mul]
      have h2 : syc a (d + 1) (p ++ [x]) ≤ a.length ^ (d + 1) := by
        have := (syc_le a d (p ++ [x])).2 a.length
        rw [Nat.pow_succ, Nat.mul_comm]
        exact this
      split <;> omega
end Go.Proofs.Ytpepbomifjbgnaa
