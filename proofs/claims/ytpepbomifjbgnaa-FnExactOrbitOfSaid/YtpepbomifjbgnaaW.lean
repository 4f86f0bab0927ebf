/- Numbers within bounds. -/
import Derived.Test.YtpepbomifjbgnaaCb
import Derived.Test.YtpepbomifjbgnaaFC
namespace Go.Proofs.Ytpepbomifjbgnaa
open Go.Kv
set_option maxRecDepth 100000
/- spec.l01In -/
def k90 : KC := (.seq (.ops [⟨(some 6), none, .mv (.c (.bool false))⟩])
  (.seq (.ops [⟨(some 7), none, .mv (.t 0)⟩, ⟨(some 8), none, .mv (.t 1)⟩, ⟨(some 9), none, .bin .geq (.t 7) (.t 8)⟩, ⟨(some 10), none, .mv (.t 9)⟩, ⟨(some 11), some (10, true), .mv (.t 0)⟩, ⟨(some 12), some (10, true), .mv (.t 2)⟩, ⟨(some 13), some (10, true), .bin .leq (.t 11) (.t 12)⟩, ⟨(some 14), none, .pick (.t 10) (.t 13) (.c (.bool false))⟩, ⟨(some 6), none, .mv (.t 14)⟩])
  .ret))
theorem e90 {args : List PV} {σ : Heap} {K : PV → Heap → Prop} (hl : args.length ≤ 15) (h : Wf σ → (∀ a ∈ args, PV.upto σ.length a) → vc (mkCfg Try.prog mixed [] 15 σ.length) k90 (FinK σ.length [.t 6] K) (argEnv 0 args) σ) : ACall Try.prog 90 args σ K :=
  ACall_enter (C := mkCfg Try.prog mixed [] 15 σ.length) (c := Try.f90.body.getD .skip) Try.func90 (by kernel_rfl) (by kernel_rfl) (by kernel_rfl) rfl hl (by kernel_rfl) (by kernel_rfl) h
/- impl.within -/
def k91 : KC := (.seq (.ops [⟨(some 6), none, .mv (.c (.bool false))⟩])
  (.seq (.ops [⟨(some 7), none, .mv (.t 0)⟩, ⟨(some 8), none, .mv (.t 1)⟩, ⟨(some 9), none, .bin .geq (.t 7) (.t 8)⟩, ⟨(some 10), none, .mv (.t 9)⟩, ⟨(some 11), some (10, true), .mv (.t 0)⟩, ⟨(some 12), some (10, true), .mv (.t 2)⟩, ⟨(some 13), some (10, true), .bin .leq (.t 11) (.t 12)⟩, ⟨(some 14), none, .pick (.t 10) (.t 13) (.c (.bool false))⟩, ⟨(some 6), none, .mv (.t 14)⟩])
  .ret))
theorem e91 {args : List PV} {σ : Heap} {K : PV → Heap → Prop} (hl : args.length ≤ 15) (h : Wf σ → (∀ a ∈ args, PV.upto σ.length a) → vc (mkCfg Try.prog mixed [] 15 σ.length) k91 (FinK σ.length [.t 6] K) (argEnv 0 args) σ) : ACall Try.prog 91 args σ K :=
  ACall_enter (C := mkCfg Try.prog mixed [] 15 σ.length) (c := Try.f91.body.getD .skip) Try.func91 (by kernel_rfl) (by kernel_rfl) (by kernel_rfl) rfl hl (by kernel_rfl) (by kernel_rfl) h
end Go.Proofs.Ytpepbomifjbgnaa
namespace Go.Proofs.Ytpepbomifjbgnaa
open Go.Kv
set_option linter.unusedVariables false
set_option linter.unusedSimpArgs false
attribute [local irreducible] ACall PCall KL
theorem p90 (a b c : Int) : Pure Try.prog 90 [.int .i64 a, .int .i64 b, .int .i64 c] (.bool (decide (b ≤ a ∧ a ≤ c))) := by
  refine e90 (by simp) fun _ _ => ?_
  simp only [k90, argEnv, go_sem, ↓reduceIte, Nat.reduceEqDiff, Nat.reduceAdd, reduceCtorEq]
  by_cases h : b ≤ a <;> simp only [h, true_and, false_and, decide_false, true_implies, not_true_eq_false, false_implies, and_true, not_false_eq_true] <;> exact Kv.Fin.now ⟨rfl, rfl⟩
theorem p91 (a b c : Int) : Pure Try.prog 91 [.int .i64 a, .int .i64 b, .int .i64 c] (.bool (decide (b ≤ a ∧ a ≤ c))) := by
  refine e91 (by simp) fun _ _ => ?_
  simp only [k91, argEnv, go_sem, ↓reduceIte, Nat.reduceEqDiff, Nat.reduceAdd, reduceCtorEq]
  by_cases h : b ≤ a <;> simp only [h, true_and, false_and, decide_false, true_implies, not_true_eq_false, false_implies, and_true, not_false_eq_true] <;> exact Kv.Fin.now ⟨rfl, rfl⟩
end Go.Proofs.Ytpepbomifjbgnaa
