/- Maps, compared by the laws' functions. -/
import Derived.Test.YtpepbomifjbgnaaCb
import Derived.Test.YtpepbomifjbgnaaMA
import Derived.Test.YtpepbomifjbgnaaB
namespace Go.Proofs.Ytpepbomifjbgnaa
open Go.Kv
set_option maxRecDepth 100000
/- laws.eqMap -/
def k56 : KC := (.seq (.ops [⟨(some 2), none, .box true (.t 0)⟩, ⟨(some 3), none, .box true (.t 1)⟩, ⟨(some 4), none, .mv (.c (.bool false))⟩])
  (.seq (.seq (.ops [⟨(some 5), none, .fieldA 0 (.t 2)⟩, ⟨(some 6), none, .load false 1 (.t 5)⟩, ⟨(some 7), none, .fieldA 0 (.t 3)⟩, ⟨(some 8), none, .load false 1 (.t 7)⟩, ⟨(some 9), none, .bin .neq (.t 6) (.t 8)⟩])
  (.cond (.t 9) (.seq (.ops [⟨(some 4), none, .mv (.c (.bool false))⟩])
  .ret) .skip))
  (.seq (.seq (.ops [⟨(some 10), none, .fieldA 1 (.t 2)⟩, ⟨(some 11), none, .load true 5 (.t 10)⟩, ⟨(some 12), none, .fieldA 1 (.t 3)⟩, ⟨(some 13), none, .load true 5 (.t 12)⟩, ⟨(some 14), none, .call (.c (.fn (.func 105) [] [])) [(.t 11), (.t 13)]⟩, ⟨(some 15), none, .not (.t 14)⟩])
  (.cond (.t 15) (.seq (.ops [⟨(some 4), none, .mv (.c (.bool false))⟩])
  .ret) .skip))
  (.seq (.ops [⟨(some 4), none, .mv (.c (.bool true))⟩])
  .ret))))
theorem e56 {args : List PV} {σ : Heap} {K : PV → Heap → Prop} (hl : args.length ≤ 16) (h : Wf σ → (∀ a ∈ args, PV.upto σ.length a) → vc (mkCfg Try.prog mixed [2, 3] 16 σ.length) k56 (FinK σ.length [.t 4] K) (argEnv 0 args) σ) : ACall Try.prog 56 args σ K :=
  ACall_enter (C := mkCfg Try.prog mixed [2, 3] 16 σ.length) (c := Try.f56.body.getD .skip) Try.func56 (by kernel_rfl) (by kernel_rfl) (by kernel_rfl) rfl hl (by kernel_rfl) (by kernel_rfl) h
/- laws.eqInt64A5 -/
/- live [2, 3, 5] -/
def k105_b0 : KC := (.seq (.seq (.ops [⟨(some 6), none, .mv (.t 5)⟩, ⟨(some 7), none, .bin .lss (.t 6) (.c (.int .i64 5))⟩])
  (.cond (.t 7) .skip (.exit 0)))
  (.seq (.block 1 (.seq (.draw [⟨(some 10), none, .mv (.t 5)⟩, ⟨(some 11), none, .idxA 5 1 (.t 2) (.t 10)⟩, ⟨(some 12), none, .load false 1 (.t 11)⟩, ⟨(some 13), none, .mv (.t 5)⟩, ⟨(some 14), none, .idxA 5 1 (.t 3) (.t 13)⟩, ⟨(some 15), none, .load false 1 (.t 14)⟩, ⟨(some 16), none, .bin .neq (.t 12) (.t 15)⟩])
  (.cond (.t 16) (.seq (.ops [⟨(some 4), none, .mv (.c (.bool false))⟩])
  .ret) .skip)))
  (.ops [⟨(some 8), none, .mv (.t 5)⟩, ⟨(some 9), none, .bin .add (.t 8) (.c (.int .i64 1))⟩, ⟨(some 5), none, .mv (.t 9)⟩])))
def k105 : KC := (.seq (.ops [⟨(some 2), none, .box true (.t 0)⟩, ⟨(some 3), none, .box true (.t 1)⟩, ⟨(some 4), none, .mv (.c (.bool false))⟩])
  (.seq (.seq (.ops [⟨(some 5), none, .mv (.c (.int .i64 0))⟩])
  (.block 0 (.loop k105_b0)))
  (.seq (.ops [⟨(some 4), none, .mv (.c (.bool true))⟩])
  .ret)))
theorem e105 {args : List PV} {σ : Heap} {K : PV → Heap → Prop} (hl : args.length ≤ 17) (h : Wf σ → (∀ a ∈ args, PV.upto σ.length a) → vc (mkCfg Try.prog mixed [2, 3] 17 σ.length) k105 (FinK σ.length [.t 4] K) (argEnv 0 args) σ) : ACall Try.prog 105 args σ K :=
  ACall_enter (C := mkCfg Try.prog mixed [2, 3] 17 σ.length) (c := Try.f105.body.getD .skip) Try.func105 (by kernel_rfl) (by kernel_rfl) (by kernel_rfl) rfl hl (by kernel_rfl) (by kernel_rfl) h
end Go.Proofs.Ytpepbomifjbgnaa
namespace Go.Proofs.Ytpepbomifjbgnaa
open Go.Kv
set_option linter.unusedVariables false
set_option linter.unusedSimpArgs false
attribute [local irreducible] ACall PCall KL
theorem p105 (a b : List Int) (ha : a.length = 5) (hb : b.length = 5) : Pure Try.prog 105 [.agg (ints a), .agg (ints b)] (.bool (decide (a = b))) := by
  refine e105 (by simp) fun _ _ => ?_
  simp only [k105, argEnv, ha, hb, take6, List.drop_zero, Int.cast_ofNat_Int, go_sem, ↓reduceIte, Nat.reduceEqDiff, Nat.reduceAdd, Nat.reduceMul, Nat.reduceLeDiff, Nat.reduceLT, Int.reduceLE, Int.reduceLT, reduceCtorEq]
  refine KL_ind k105_b0.eq_1 (fun x : Nat => [(2, .fptr (ints a) 0), (3, .fptr (ints b) 0), (5, .int .i64 x)]) (fun _ => []) (fun x => x ≤ 5 ∧ a.take x = b.take x) (fun x => 5 - x) [2, 3, 5] 0 (by rfl) rfl ⟨Nat.zero_le _, rfl⟩ fun x ⟨hx, ht⟩ ih => ?_
  try simp only [ha, hb, take6, List.drop_zero, Int.cast_ofNat_Int, go_sem, ↓reduceIte, Nat.reduceEqDiff, Nat.reduceAdd, Nat.reduceMul, Nat.reduceLeDiff, Nat.reduceLT, Int.reduceLE, Int.reduceLT, reduceCtorEq]
  refine ⟨fun h1 => ⟨by omega, by omega, fun h2 => ⟨by omega, by omega, fun h3 => ⟨fun h4 => ?_, fun h4 => ⟨by omega, ?_⟩⟩⟩⟩, fun h1 => ?_⟩
  · have : a ≠ b := fun e => h4 (by rw [e])
    exact Kv.Fin.now ⟨by rw [decide_eq_false this], rfl⟩
  · exact ih (x + 1) ⟨by omega, take_succ_eq ht (by omega) (by omega) h4⟩ (by omega) _ _ (by rfl) rfl
  · obtain rfl : x = 5 := by omega
    rw [List.take_of_length_le (by omega), List.take_of_length_le (by omega)] at ht
    exact Kv.Fin.now ⟨by rw [decide_eq_true ht], rfl⟩
theorem eq_of_drop {a b : List Int} (ha : a.length = 6) (hb : b.length = 6) : (a = b) ↔ (a.getD 0 0 = b.getD 0 0 ∧ (a.drop 1).take 5 = (b.drop 1).take 5) := by
  obtain ⟨x, a, rfl⟩ : ∃ x l, a = x :: l := by
    match a, ha with
    | x :: l, _ => exact ⟨x, l, rfl⟩
  obtain ⟨y, b, rfl⟩ : ∃ x l, b = x :: l := by
    match b, hb with
    | x :: l, _ => exact ⟨x, l, rfl⟩
  simp only [List.length_cons] at ha hb
  simp only [List.drop_succ_cons, List.drop_zero, List.getD_cons_zero, List.cons.injEq]
  rw [List.take_of_length_le (by omega), List.take_of_length_le (by omega)]
theorem p56 (a b : List Int) (ha : a.length = 6) (hb : b.length = 6) : Pure Try.prog 56 [.agg (ints a), .agg (ints b)] (.bool (decide (a = b))) := by
  have hd : decide (a = b) = (decide (a.getD 0 0 = b.getD 0 0) && decide ((a.drop 1).take 5 = (b.drop 1).take 5)) := by
    rw [decide_eq_decide.2 (eq_of_drop ha hb), Bool.decide_and]
  have ha5 : ((a.drop 1).take 5).length = 5 := by simp [ha]
  have hb5 : ((b.drop 1).take 5).length = 5 := by simp [hb]
  rw [hd]
  refine e56 (by simp) fun _ _ => ?_
  simp only [k56, argEnv, ha, hb, take6, List.drop_zero, Int.cast_ofNat_Int, go_sem, ↓reduceIte, Nat.reduceEqDiff, Nat.reduceAdd, Nat.reduceMul, Nat.reduceLeDiff, Nat.reduceLT, Int.reduceLE, Int.reduceLT, reduceCtorEq]
  refine ⟨fun h => ?_, fun h => ?_⟩
  · exact Kv.Fin.now ⟨by rw [decide_eq_false h]; rfl, rfl⟩
  · refine (p105 _ _ ha5 hb5).go ?_
    rw [decide_eq_true h]
    cases decide ((a.drop 1).take 5 = (b.drop 1).take 5)
    · try simp only [take6, List.drop_zero, Int.cast_ofNat_Int, go_sem, ↓reduceIte, Nat.reduceEqDiff, Nat.reduceAdd, Nat.reduceMul, Nat.reduceLeDiff, Nat.reduceLT, Int.reduceLE, Int.reduceLT, reduceCtorEq]
      exact Kv.Fin.now ⟨rfl, rfl⟩
    · try simp only [take6, List.drop_zero, Int.cast_ofNat_Int, go_sem, ↓reduceIte, Nat.reduceEqDiff, Nat.reduceAdd, Nat.reduceMul, Nat.reduceLeDiff, Nat.reduceLT, Int.reduceLE, Int.reduceLT, reduceCtorEq]
      exact Kv.Fin.now ⟨rfl, rfl⟩
end Go.Proofs.Ytpepbomifjbgnaa
