/- The symmetries of a table, counted: the specification's side. -/
import Derived.Test.YtkljidghocnllaaCb
import Derived.Test.YtkljidghocnllaaT3
import Derived.Test.YtkljidghocnllaaCL
namespace Go.Proofs.Ytkljidghocnllaa
open Go.Kv
set_option maxRecDepth 100000
/- spec.l08Fits -/
/- live [0, 1, 2, 7, 8, 51, 52, 53, 54, 55, 56, 57, 58, 59, 60, 61, 62, 63, 64, 65, 66, 67, 68] -/
def k110_b0 : KC := (.seq (.seq (.ops [⟨(some 14), none, .mv (.t 8)⟩, ⟨(some 15), none, .bin .add (.t 14) (.c (.int .i64 1))⟩, ⟨(some 16), none, .mv (.t 7)⟩, ⟨(some 17), none, .bin .lss (.t 15) (.t 16)⟩])
  (.cond (.t 17) .skip (.exit 0)))
  (.seq (.block 1 (.seq (.draw [⟨(some 20), none, .mv (.t 2)⟩, ⟨(some 21), none, .mv (.t 8)⟩, ⟨(some 22), none, .idxS 1 (.t 20) (.t 21)⟩, ⟨(some 23), none, .load false 1 (.t 22)⟩, ⟨(some 24), none, .mv (.t 2)⟩, ⟨(some 25), none, .mv (.t 7)⟩, ⟨(some 26), none, .bin .sub (.t 25) (.c (.int .i64 1))⟩, ⟨(some 27), none, .idxS 1 (.t 24) (.t 26)⟩, ⟨(some 28), none, .load false 1 (.t 27)⟩, ⟨(some 29), none, .bin .eql (.t 23) (.t 28)⟩])
  (.cond (.t 29) (.seq (.ops [⟨(some 6), none, .mv (.c (.bool false))⟩])
  .ret) .skip)))
  (.ops [⟨(some 18), none, .mv (.t 8)⟩, ⟨(some 19), none, .bin .add (.t 18) (.c (.int .i64 1))⟩, ⟨(some 8), none, .mv (.t 19)⟩])))
/- live [0, 1, 2, 7, 9, 10, 51, 52, 53, 54, 55, 56, 57, 58, 59, 60, 61, 62, 63, 64, 65, 66, 67, 68] -/
def k110_b1 : KC := (.seq (.seq (.ops [⟨(some 35), none, .mv (.t 10)⟩, ⟨(some 36), none, .mv (.t 7)⟩, ⟨(some 37), none, .bin .lss (.t 35) (.t 36)⟩])
  (.cond (.t 37) .skip (.exit 4)))
  (.seq (.block 5 (.seq (.ops [⟨(some 40), none, .mv (.t 0)⟩, ⟨(some 41), none, .mv (.t 9)⟩, ⟨(some 42), none, .idxS 1 (.t 40) (.t 41)⟩, ⟨(some 43), none, .load false 1 (.t 42)⟩, ⟨(some 44), none, .mv (.t 10)⟩, ⟨(some 45), none, .idxS 1 (.t 43) (.t 44)⟩, ⟨(some 46), none, .load false 1 (.t 45)⟩, ⟨(some 11), none, .mv (.t 46)⟩])
  (.seq (.draw [⟨(some 47), none, .mv (.t 11)⟩, ⟨(some 48), none, .mv (.t 7)⟩, ⟨(some 49), none, .bin .lss (.t 47) (.t 48)⟩, ⟨(some 50), none, .mv (.t 49)⟩, ⟨(some 51), some (50, true), .mv (.t 2)⟩, ⟨(some 52), some (50, true), .mv (.t 11)⟩, ⟨(some 53), some (50, true), .idxS 1 (.t 51) (.t 52)⟩, ⟨(some 54), some (50, true), .load false 1 (.t 53)⟩, ⟨(some 55), some (50, true), .mv (.t 1)⟩, ⟨(some 56), some (50, true), .mv (.t 2)⟩, ⟨(some 57), some (50, true), .mv (.t 9)⟩, ⟨(some 58), some (50, true), .idxS 1 (.t 56) (.t 57)⟩, ⟨(some 59), some (50, true), .load false 1 (.t 58)⟩, ⟨(some 60), some (50, true), .idxS 1 (.t 55) (.t 59)⟩, ⟨(some 61), some (50, true), .load false 1 (.t 60)⟩, ⟨(some 62), some (50, true), .mv (.t 2)⟩, ⟨(some 63), some (50, true), .mv (.t 10)⟩, ⟨(some 64), some (50, true), .idxS 1 (.t 62) (.t 63)⟩, ⟨(some 65), some (50, true), .load false 1 (.t 64)⟩, ⟨(some 66), some (50, true), .idxS 1 (.t 61) (.t 65)⟩, ⟨(some 67), some (50, true), .load false 1 (.t 66)⟩, ⟨(some 68), some (50, true), .bin .neq (.t 54) (.t 67)⟩, ⟨(some 69), none, .pick (.t 50) (.t 68) (.c (.bool false))⟩])
  (.cond (.t 69) (.seq (.ops [⟨(some 6), none, .mv (.c (.bool false))⟩])
  .ret) .skip))))
  (.ops [⟨(some 38), none, .mv (.t 10)⟩, ⟨(some 39), none, .bin .add (.t 38) (.c (.int .i64 1))⟩, ⟨(some 10), none, .mv (.t 39)⟩])))
/- live [0, 1, 2, 7, 9, 51, 52, 53, 54, 55, 56, 57, 58, 59, 60, 61, 62, 63, 64, 65, 66, 67, 68] -/
def k110_b2 : KC := (.seq (.seq (.ops [⟨(some 30), none, .mv (.t 9)⟩, ⟨(some 31), none, .mv (.t 7)⟩, ⟨(some 32), none, .bin .lss (.t 30) (.t 31)⟩])
  (.cond (.t 32) .skip (.exit 2)))
  (.seq (.block 3 (.seq (.ops [⟨(some 10), none, .mv (.c (.int .i64 0))⟩])
  (.block 4 (.loop k110_b1))))
  (.ops [⟨(some 33), none, .mv (.t 9)⟩, ⟨(some 34), none, .bin .add (.t 33) (.c (.int .i64 1))⟩, ⟨(some 9), none, .mv (.t 34)⟩])))
def k110 : KC := (.seq (.ops [⟨(some 6), none, .mv (.c (.bool false))⟩])
  (.seq (.ops [⟨(some 12), none, .mv (.t 2)⟩, ⟨(some 13), none, .len false (.t 12)⟩, ⟨(some 7), none, .mv (.t 13)⟩])
  (.seq (.seq (.ops [⟨(some 8), none, .mv (.c (.int .i64 0))⟩])
  (.block 0 (.loop k110_b0)))
  (.seq (.seq (.ops [⟨(some 9), none, .mv (.c (.int .i64 0))⟩])
  (.block 2 (.loop k110_b2)))
  (.seq (.ops [⟨(some 6), none, .mv (.c (.bool true))⟩])
  .ret)))))
theorem e110 {args : List PV} {σ : Heap} {K : PV → Heap → Prop} (hl : args.length ≤ 70) (h : Wf σ → (∀ a ∈ args, PV.upto σ.length a) → vc (mkCfg Try.prog mixed [] 70 σ.length) k110 (FinK σ.length [.t 6] K) (argEnv 0 args) σ) : ACall Try.prog 110 args σ K :=
  ACall_enter (C := mkCfg Try.prog mixed [] 70 σ.length) (c := Try.f110.body.getD .skip) Try.func110 (by kernel_rfl) (by kernel_rfl) (by kernel_rfl) rfl hl (by kernel_rfl) (by kernel_rfl) h
/- spec.l01Own -/
def k109 : KC := (.seq (.ops [⟨(some 2), none, .mv (.c (.nils))⟩])
  (.seq (.ops [⟨(some 3), none, .bsl false 2 1 []⟩, ⟨(some 4), none, .mv (.t 0)⟩, ⟨(some 5), none, .app (.t 3) (.t 4) 2 1⟩, ⟨(some 2), none, .mv (.t 5)⟩])
  .ret))
theorem e109 {args : List PV} {σ : Heap} {K : PV → Heap → Prop} (hl : args.length ≤ 6) (h : Wf σ → (∀ a ∈ args, PV.upto σ.length a) → vc (mkCfg Try.prog mixed [] 6 σ.length) k109 (FinK σ.length [.t 2] K) (argEnv 0 args) σ) : ACall Try.prog 109 args σ K :=
  ACall_enter (C := mkCfg Try.prog mixed [] 6 σ.length) (c := Try.f109.body.getD .skip) Try.func109 (by kernel_rfl) (by kernel_rfl) (by kernel_rfl) rfl hl (by kernel_rfl) (by kernel_rfl) h
/- spec.l08Count -/
/- live [0, 1, 5, 6] -/
def k67_b0 : KC := (.seq (.seq (.ops [⟨(some 13), none, .mv (.t 6)⟩, ⟨(some 14), none, .mv (.t 0)⟩, ⟨(some 15), none, .len false (.t 14)⟩, ⟨(some 16), none, .bin .lss (.t 13) (.t 15)⟩])
  (.cond (.t 16) .skip (.exit 0)))
  (.seq (.block 1 (.seq (.ops [⟨(some 19), none, .mv (.t 1)⟩, ⟨(some 20), none, .call (.c (.fn (.func 109) [] [])) [(.t 19)]⟩, ⟨(some 21), none, .mv (.t 6)⟩, ⟨(some 22), none, .bsl true 2 1 [(.t 21)]⟩, ⟨(some 23), none, .app (.t 20) (.t 22) 2 1⟩, ⟨(some 7), none, .mv (.t 23)⟩])
  (.seq (.ops [⟨(some 24), none, .mv (.t 0)⟩, ⟨(some 25), none, .mv (.t 0)⟩, ⟨(some 26), none, .mv (.t 7)⟩, ⟨(some 27), none, .call (.c (.fn (.func 110) [] [])) [(.t 24), (.t 25), (.t 26)]⟩])
  (.cond (.t 27) (.ops [⟨(some 28), none, .mv (.t 5)⟩, ⟨(some 29), none, .mv (.t 0)⟩, ⟨(some 30), none, .mv (.t 7)⟩, ⟨(some 31), none, .call (.c (.fn (.func 67) [] [])) [(.t 29), (.t 30)]⟩, ⟨(some 32), none, .bin .add (.t 28) (.t 31)⟩, ⟨(some 5), none, .mv (.t 32)⟩]) .skip))))
  (.ops [⟨(some 17), none, .mv (.t 6)⟩, ⟨(some 18), none, .bin .add (.t 17) (.c (.int .i64 1))⟩, ⟨(some 6), none, .mv (.t 18)⟩])))
def k67 : KC := (.seq (.ops [⟨(some 4), none, .mv (.c (.int .i64 0))⟩])
  (.seq (.seq (.ops [⟨(some 8), none, .mv (.t 1)⟩, ⟨(some 9), none, .len false (.t 8)⟩, ⟨(some 10), none, .mv (.t 0)⟩, ⟨(some 11), none, .len false (.t 10)⟩, ⟨(some 12), none, .bin .eql (.t 9) (.t 11)⟩])
  (.cond (.t 12) (.seq (.ops [⟨(some 4), none, .mv (.c (.int .i64 1))⟩])
  .ret) .skip))
  (.seq (.ops [⟨(some 5), none, .mv (.c (.int .i64 0))⟩])
  (.seq (.seq (.ops [⟨(some 6), none, .mv (.c (.int .i64 0))⟩])
  (.block 0 (.loop k67_b0)))
  (.seq (.ops [⟨(some 33), none, .mv (.t 5)⟩, ⟨(some 4), none, .mv (.t 33)⟩])
  .ret)))))
theorem e67 {args : List PV} {σ : Heap} {K : PV → Heap → Prop} (hl : args.length ≤ 34) (h : Wf σ → (∀ a ∈ args, PV.upto σ.length a) → vc (mkCfg Try.prog mixed [22] 34 σ.length) k67 (FinK σ.length [.t 4] K) (argEnv 0 args) σ) : ACall Try.prog 67 args σ K :=
  ACall_enter (C := mkCfg Try.prog mixed [22] 34 σ.length) (c := Try.f67.body.getD .skip) Try.func67 (by kernel_rfl) (by kernel_rfl) (by kernel_rfl) rfl hl (by kernel_rfl) (by kernel_rfl) h
/- spec.CountTableSymmetries -/
def k24 : KC := (.seq (.ops [⟨(some 2), none, .mv (.c (.int .i64 0))⟩, ⟨(some 3), none, .mv (.c (.int .i64 0))⟩])
  (.seq (.block 0 (.seq (.ops [⟨(some 5), none, .mv (.t 0)⟩, ⟨(some 6), none, .call (.c (.fn (.func 66) [] [])) [(.t 5)]⟩, ⟨(some 7), none, .not (.t 6)⟩, ⟨(some 4), none, .mv (.t 7)⟩])
  (.cond (.t 4) (.seq (.ops [⟨(some 2), none, .mv (.c (.int .i64 0))⟩, ⟨(some 3), none, .mv (.c (.int .i64 2))⟩])
  .ret) (.seq (.ops [⟨(some 9), none, .mv (.t 0)⟩, ⟨(some 10), none, .len false (.t 9)⟩, ⟨(some 11), none, .bin .gtr (.t 10) (.c (.int .i64 10))⟩, ⟨(some 8), none, .mv (.t 11)⟩])
  (.cond (.t 8) (.seq (.ops [⟨(some 2), none, .mv (.c (.int .i64 0))⟩, ⟨(some 3), none, .mv (.c (.int .i64 3))⟩])
  .ret) .skip)))))
  (.seq (.ops [⟨(some 12), none, .mv (.t 0)⟩, ⟨(some 13), none, .bsl false 2 1 []⟩, ⟨(some 14), none, .call (.c (.fn (.func 67) [] [])) [(.t 12), (.t 13)]⟩, ⟨(some 2), none, .mv (.t 14)⟩, ⟨(some 3), none, .mv (.c (.int .i64 0))⟩])
  .ret)))
theorem e24 {args : List PV} {σ : Heap} {K : PV → Heap → Prop} (hl : args.length ≤ 15) (h : Wf σ → (∀ a ∈ args, PV.upto σ.length a) → vc (mkCfg Try.prog mixed [] 15 σ.length) k24 (FinK σ.length [.t 2, .t 3] K) (argEnv 0 args) σ) : ACall Try.prog 24 args σ K :=
  ACall_enter (C := mkCfg Try.prog mixed [] 15 σ.length) (c := Try.f24.body.getD .skip) Try.func24 (by kernel_rfl) (by kernel_rfl) (by kernel_rfl) rfl hl (by kernel_rfl) (by kernel_rfl) h
end Go.Proofs.Ytkljidghocnllaa
namespace Go.Proofs.Ytkljidghocnllaa
open Go.Kv
set_option linter.unusedVariables false
set_option linter.unusedSimpArgs false
attribute [local irreducible] ACall PCall KL
/-- Products agree where all three are told. -/
def fit1 (a b : List (List Int)) (p : List Nat) (i k : Nat) : Prop := tat a i k < p.length → (p.getD (tat a i k).toNat 0 : Int) = tat b (p.getD i 0) (p.getD k 0)
def Fits (a b : List (List Int)) (p : List Nat) : Prop := (∀ i, i + 1 < p.length → p.getD i 0 ≠ p.getD (p.length - 1) 0) ∧ ∀ i k, i < p.length → k < p.length → fit1 a b p i k
noncomputable def fitsB (a b : List (List Int)) (p : List Nat) : Bool := @decide (Fits a b p) (Classical.propDecidable _)
theorem fitsB_true {a b : List (List Int)} {p : List Nat} (h : Fits a b p) : fitsB a b p = true := by
  unfold fitsB; exact @decide_eq_true _ (Classical.propDecidable _) h
theorem fitsB_false {a b : List (List Int)} {p : List Nat} (h : ¬ Fits a b p) : fitsB a b p = false := by
  unfold fitsB; exact @decide_eq_false _ (Classical.propDecidable _) h
theorem p109 (l : List Int) (hl : l.length ≤ 1048576) : ACall Try.prog 109 [.list (ints l)] [] (fun v s => v = .ref 0 1 0 l.length ∧ s = [.arr 1 2 1 (ints l)]) := by
  refine e109 (by simp) fun _ _ => ?_
  simp only [k109, argEnv, take6, List.drop_zero, Int.cast_ofNat_Int, go_sem, ↓reduceIte, Nat.reduceEqDiff, Nat.reduceAdd, Nat.reduceMul, Nat.reduceLeDiff, Nat.reduceLT, Int.reduceLE, Int.reduceLT, reduceCtorEq]
  repeat' (first | refine And.intro ?_ ?_ | intro _)
  all_goals (try omega)
  exact Kv.Fin.now ⟨rfl, rfl⟩
theorem p110 (a b : List (List Int)) (p : List Nat) (ha : isTab a = true) (hb : isTab b = true) (hab : b.length = a.length) (h10 : a.length ≤ 10) (hp : p.length ≤ a.length) (hpx : ∀ i, i < p.length → p.getD i 0 < a.length) :
    Pure Try.prog 110 [.list (rows a), .list (rows b), .list (ints (p.map fun x : Nat => (x : Int)))] (.bool (fitsB a b p)) := by
  obtain ⟨hna, hsa⟩ := tab_sq ha
  obtain ⟨hnb, hsb⟩ := tab_sq hb
  refine e110 (by simp) fun _ _ => ?_
  simp only [k110, argEnv, List.length_map, take6, List.drop_zero, Int.cast_ofNat_Int, go_sem, ↓reduceIte, Nat.reduceEqDiff, Nat.reduceAdd, Nat.reduceMul, Nat.reduceLeDiff, Nat.reduceLT, Int.reduceLE, Int.reduceLT, reduceCtorEq]
  refine KL_ind k110_b0.eq_1 (fun x : Nat => [(0, .list (rows a)), (1, .list (rows b)), (2, .list (ints (p.map fun x : Nat => (x : Int)))), (7, .int .i64 p.length), (8, .int .i64 x)]) (fun _ => []) (fun x => (x = 0 ∨ x < p.length) ∧ ∀ i, i < x → p.getD i 0 ≠ p.getD (p.length - 1) 0) (fun x => p.length - x) [0, 1, 2, 7, 8] 0 (by simp [keep]) rfl ⟨.inl rfl, fun i hi => by omega⟩ fun x ⟨hx, hne⟩ ih => ?_
  have hl1 : ((p.length : Int) - 1).toNat = p.length - 1 := by omega
  try simp only [natD, List.length_map, hl1, take6, List.drop_zero, Int.cast_ofNat_Int, go_sem, ↓reduceIte, Nat.reduceEqDiff, Nat.reduceAdd, Nat.reduceMul, Nat.reduceLeDiff, Nat.reduceLT, Int.reduceLE, Int.reduceLT, reduceCtorEq]
  refine ⟨by omega, fun h1 => ⟨by omega, fun _ => ⟨by omega, by omega, fun _ => ⟨fun h2 => ?_, fun h2 => ⟨by omega, ?_⟩⟩⟩⟩, fun h1 => ?_⟩
  · exact Kv.Fin.still ⟨by rw [fitsB_false fun h => h.1 x (by omega) (by omega)], rfl⟩
  · refine ih (x + 1) ⟨by omega, fun i hi => ?_⟩ (by omega) _ _ (by simp [keep]) rfl
    by_cases e : i = x
    · rw [e]; omega
    · exact hne i (by omega)
  have hA : ∀ i, i + 1 < p.length → p.getD i 0 ≠ p.getD (p.length - 1) 0 := fun i hi => hne i (by omega)
  clear ih
  refine KL_ind k110_b2.eq_1 (fun i : Nat => [(0, .list (rows a)), (1, .list (rows b)), (2, .list (ints (p.map fun x : Nat => (x : Int)))), (7, .int .i64 p.length), (9, .int .i64 i)]) (fun _ => []) (fun i => i ≤ p.length ∧ ∀ j k, j < i → k < p.length → fit1 a b p j k) (fun i => p.length - i) [0, 1, 2, 7, 9] 0 (by simp [keep]) rfl ⟨Nat.zero_le _, fun j k hj => by omega⟩ fun i ⟨hi, hfi⟩ ihi => ?_
  try simp only [take6, List.drop_zero, Int.cast_ofNat_Int, go_sem, ↓reduceIte, Nat.reduceEqDiff, Nat.reduceAdd, Nat.reduceMul, Nat.reduceLeDiff, Nat.reduceLT, Int.reduceLE, Int.reduceLT, reduceCtorEq]
  refine ⟨fun h2 => ?_, fun h2 => ?_⟩
  · have hip : i < p.length := by omega
    refine KL_ind k110_b1.eq_1 (fun k : Nat => [(0, .list (rows a)), (1, .list (rows b)), (2, .list (ints (p.map fun x : Nat => (x : Int)))), (7, .int .i64 p.length), (9, .int .i64 i), (10, .int .i64 k)]) (fun _ => []) (fun k => k ≤ p.length ∧ ∀ j, j < k → fit1 a b p i j) (fun k => p.length - k) [0, 1, 2, 7, 9, 10] 0 (by simp [keep]) rfl ⟨Nat.zero_le _, fun j hj => by omega⟩ fun k ⟨hk, hfk⟩ ihk => ?_
    have hrow := hsa i (by omega)
    have hrb := hsb (p.getD i 0) (by have := hpx i hip; omega)
    try simp only [natD, List.length_map, hrow, hrb, take6, List.drop_zero, Int.cast_ofNat_Int, go_sem, ↓reduceIte, Nat.reduceEqDiff, Nat.reduceAdd, Nat.reduceMul, Nat.reduceLeDiff, Nat.reduceLT, Int.reduceLE, Int.reduceLT, reduceCtorEq]
    refine ⟨fun h3 => ?_, fun h3 => ?_⟩
    · have hkp : k < p.length := by omega
      have hta := tab_at ha (i := i) (j := k) (by omega) (by omega)
      have e1 : (a.getD i []).getD k 0 = tat a i k := rfl
      have e2 : (b.getD (p.getD i 0) []).getD (p.getD k 0) 0 = tat b (p.getD i 0) (p.getD k 0) := rfl
      have hpi := hpx i hip
      have hpk := hpx k hkp
      rw [e1, e2]
      have hst : fit1 a b p i k → ∀ j, j < k + 1 → fit1 a b p i j := fun h j hj => by
        by_cases e : j = k
        · rw [e]; exact h
        · exact hfk j (by omega)
      refine ⟨by omega, fun _ => ⟨by omega, fun _ => ⟨fun h4 => ⟨⟨by omega, by omega⟩, fun _ => ⟨by omega, fun _ => ⟨by omega, fun _ => ⟨by omega, fun _ => ⟨by omega, fun _ => ⟨fun h5 => ?_, fun h5 => ⟨by omega, ?_⟩⟩⟩⟩⟩⟩⟩, fun h4 => ⟨by omega, ?_⟩⟩⟩⟩
      · exact Kv.Fin.still ⟨by rw [fitsB_false fun h => h5 (h.2 i k hip hkp h4)], rfl⟩
      · exact ihk (k + 1) ⟨by omega, hst fun _ => h5⟩ (by omega) _ _ (by simp [keep]) rfl
      · exact ihk (k + 1) ⟨by omega, hst fun h => absurd h h4⟩ (by omega) _ _ (by simp [keep]) rfl
    · obtain rfl : k = p.length := by omega
      refine ⟨by omega, ?_⟩
      refine ihi (i + 1) ⟨by omega, fun j k hj hk => ?_⟩ (by omega) _ _ (by simp [keep]) rfl
      by_cases e : j = i
      · rw [e]; exact hfk k hk
      · exact hfi j k (by omega) hk
  · obtain rfl : i = p.length := by omega
    exact Kv.Fin.still ⟨by rw [fitsB_true ⟨hA, hfi⟩], rfl⟩
/-- The number of symmetries that begin with p, d numbers being left. -/
noncomputable def syc (a : List (List Int)) : Nat → List Nat → Nat
  | 0, _ => 1
  | d + 1, p => ((List.range a.length).map fun q => if fitsB a a (p ++ [q]) = true then syc a d (p ++ [q]) else 0).sum
noncomputable def sycN (a : List (List Int)) (d : Nat) (p : List Nat) (x : Nat) : Nat := ((List.range x).map fun q => if fitsB a a (p ++ [q]) = true then syc a d (p ++ [q]) else 0).sum
theorem sycN_succ (a : List (List Int)) (d : Nat) (p : List Nat) (x : Nat) : sycN a d p (x + 1) = sycN a d p x + if fitsB a a (p ++ [x]) = true then syc a d (p ++ [x]) else 0 := by
  simp [sycN, List.range_succ, List.sum_append]
theorem syc_le (a : List (List Int)) : ∀ (d : Nat) (p : List Nat), syc a d p ≤ a.length ^ d ∧ ∀ x, sycN a d p x ≤ x * a.length ^ d
  | 0, p => by
    have h0 : ∀ q, syc a 0 q = 1 := fun q => rfl
    refine ⟨by rw [h0]; simp, fun x => ?_⟩
    induction x with
    | zero => simp [sycN]
    | succ x ih =>
      rw [sycN_succ, Nat.succ_mul, h0]
      simp only [Nat.pow_zero] at ih ⊢
      split <;> omega
  | d + 1, p => by
    have h1 : syc a (d + 1) p ≤ a.length ^ (d + 1) := by
      have := (syc_le a d p).2 a.length
      rw [Nat.pow_succ, Nat.mul_comm]
      exact this
    refine ⟨h1, fun x => ?_⟩
    induction x with
    | zero => simp [sycN]
    | succ x ih =>
      rw [sycN_succ, Nat.succ_mul]
      have h2 : syc a (d + 1) (p ++ [x]) ≤ a.length ^ (d + 1) := by
        have := (syc_le a d (p ++ [x])).2 a.length
        rw [Nat.pow_succ, Nat.mul_comm]
        exact this
      split <;> omega
theorem p67 (a : List (List Int)) (ha : isTab a = true) (h10 : a.length ≤ 10) : ∀ (d : Nat) (p : List Nat), p.length + d = a.length → (∀ i, i < p.length → p.getD i 0 < a.length) →
    Pure Try.prog 67 [.list (rows a), .list (ints (p.map fun x : Nat => (x : Int)))] (.int .i64 (syc a d p)) := by
  obtain ⟨hna, hsa⟩ := tab_sq ha
  intro d
  induction d with
  | zero =>
    intro p hp hpx
    refine e67 (by simp) fun _ _ => ?_
    simp only [k67, argEnv, List.length_map, take6, List.drop_zero, Int.cast_ofNat_Int, go_sem, ↓reduceIte, Nat.reduceEqDiff, Nat.reduceAdd, Nat.reduceMul, Nat.reduceLeDiff, Nat.reduceLT, Int.reduceLE, Int.reduceLT, reduceCtorEq]
    repeat' (first | refine And.intro ?_ ?_ | intro _)
    all_goals (try omega)
    exact Kv.Fin.still ⟨rfl, rfl⟩
  | succ d ihd =>
    intro p hp hpx
    have hpow : a.length ^ d ≤ 1000000000 := by
      have h1 : a.length ^ d ≤ 10 ^ d := Nat.pow_le_pow_left h10 d
      have h2 : 10 ^ d ≤ 10 ^ 9 := Nat.pow_le_pow_right (by omega) (by omega)
      omega
    have hpw : ∀ x, x ≤ a.length → sycN a d p x ≤ 10000000000 := fun x hx => by
      have h1 := (syc_le a d p).2 x
      have h2 : x * a.length ^ d ≤ 10 * 1000000000 := Nat.mul_le_mul (by omega) hpow
      omega
    refine e67 (by simp) fun _ _ => ?_
    simp only [k67, argEnv, List.length_map, take6, List.drop_zero, Int.cast_ofNat_Int, go_sem, ↓reduceIte, Nat.reduceEqDiff, Nat.reduceAdd, Nat.reduceMul, Nat.reduceLeDiff, Nat.reduceLT, Int.reduceLE, Int.reduceLT, reduceCtorEq]
    refine ⟨fun h => absurd h (by omega), fun _ => ?_⟩
    refine KL_indD k67_b0.eq_1 (fun x : Nat => [(0, .list (rows a)), (1, .list (ints (p.map fun x : Nat => (x : Int)))), (5, .int .i64 (sycN a d p x)), (6, .int .i64 x)]) (fun _ => []) (fun x => x ≤ a.length) (fun x => a.length - x) [0, 1, 5, 6] 0 (by simp [keep, sycN]) ⟨[], rfl⟩ (Nat.zero_le _) (fun x hx => ?_) fun x hx ih => ?_
    · exact ⟨Nat.zero_le _, Env.undr_upto (by simp [Env.undr, PV.undr, undrX_ints, undrX_rows]), .nil _⟩
    try simp only [take6, List.drop_zero, Int.cast_ofNat_Int, go_sem, ↓reduceIte, Nat.reduceEqDiff, Nat.reduceAdd, Nat.reduceMul, Nat.reduceLeDiff, Nat.reduceLT, Int.reduceLE, Int.reduceLT, reduceCtorEq]
    refine ⟨fun h1 => ?_, fun h1 => ?_⟩
    · refine (p109 (p.map fun x : Nat => (x : Int)) (by simp; omega)).go fun v s ⟨hv, hs⟩ => ?_
      subst hv; subst hs
      try simp only [ren_ref, List.length_map, take6, List.drop_zero, Int.cast_ofNat_Int, go_sem, ↓reduceIte, Nat.reduceEqDiff, Nat.reduceAdd, Nat.reduceMul, Nat.reduceLeDiff, Nat.reduceLT, Int.reduceLE, Int.reduceLT, reduceCtorEq]
      have hmp : List.take p.length (p.map fun x : Nat => (x : Int)) ++ [(x : Int)] = (p ++ [x]).map fun x : Nat => (x : Int) := by
        rw [List.take_of_length_le (by simp)]; simp
      rw [hmp]
      have hq : ∀ i, i < (p ++ [x]).length → (p ++ [x]).getD i 0 < a.length := fun i hi => by
        by_cases e : i < p.length
        · rw [List.getD_eq_getElem?_getD, List.getElem?_append_left e, ← List.getD_eq_getElem?_getD]; exact hpx i e
        · have e2 : i = p.length := by simp at hi; omega
          rw [e2, List.getD_eq_getElem?_getD, List.getElem?_append_right (Nat.le_refl _), Nat.sub_self]
          show x < a.length; omega
      have himm : Imm [AObj.arr 2 2 1 (ints ((p ++ [x]).map fun x : Nat => (x : Int)))] (.ref 0 2 0 (p.length + 1)) (.list (ints ((p ++ [x]).map fun x : Nat => (x : Int)))) := Imm.refn rfl (by simp)
      refine ⟨by omega, ?_⟩
      refine (p110 a a (p ++ [x]) ha ha rfl h10 (by simp; omega) hq).lend (.cons Imm.still (.cons Imm.still (.cons himm (.nil _)))) ?_
      have hs1 := sycN_succ a d p x
      have hw := hpw (x + 1) (by omega)
      cases hF : fitsB a a (p ++ [x]) with
      | false =>
        rw [hF] at hs1
        try simp only [take6, List.drop_zero, Int.cast_ofNat_Int, go_sem, ↓reduceIte, Nat.reduceEqDiff, Nat.reduceAdd, Nat.reduceMul, Nat.reduceLeDiff, Nat.reduceLT, Int.reduceLE, Int.reduceLT, reduceCtorEq]
        refine ⟨by omega, ?_⟩
        refine ih (x + 1) (by omega) (by omega) _ _ ?_ ⟨[_], rfl⟩
        simp [keep, hs1]
      | true =>
        rw [hF, if_pos rfl] at hs1
        try simp only [take6, List.drop_zero, Int.cast_ofNat_Int, go_sem, ↓reduceIte, Nat.reduceEqDiff, Nat.reduceAdd, Nat.reduceMul, Nat.reduceLeDiff, Nat.reduceLT, Int.reduceLE, Int.reduceLT, reduceCtorEq]
        refine (ihd (p ++ [x]) (by simp; omega) hq).lend (.cons Imm.still (.cons himm (.nil _))) ?_
        try simp only [take6, List.drop_zero, Int.cast_ofNat_Int, go_sem, ↓reduceIte, Nat.reduceEqDiff, Nat.reduceAdd, Nat.reduceMul, Nat.reduceLeDiff, Nat.reduceLT, Int.reduceLE, Int.reduceLT, reduceCtorEq]
        refine ⟨by omega, by omega, ?_⟩
        refine ih (x + 1) (by omega) (by omega) _ _ ?_ ⟨[_], rfl⟩
        simp [keep, hs1]
    · obtain rfl : x = a.length := by omega
      exact Kv.Fin.still ⟨rfl, rfl⟩
theorem p24 (t : List (List Int)) (ht : t.length ≤ 1048576) (hl : ∀ r ∈ t, r.length ≤ 1048576) : Pure Try.prog 24 [.list (rows t)] (.tup [.int .i64 (if isTab t = true ∧ t.length ≤ 10 then (syc t t.length [] : Int) else 0), .int .i64 (if isTab t = false then 2 else if t.length ≤ 10 then 0 else 3)]) := by
  refine e24 (by simp) fun _ _ => ?_
  simp only [k24, argEnv, take6, List.drop_zero, Int.cast_ofNat_Int, go_sem, ↓reduceIte, Nat.reduceEqDiff, Nat.reduceAdd, Nat.reduceMul, Nat.reduceLeDiff, Nat.reduceLT, Int.reduceLE, Int.reduceLT, reduceCtorEq]
  refine (p66 t ht hl).go ?_
  cases hb : isTab t with
  | false =>
    try simp only [take6, List.drop_zero, Int.cast_ofNat_Int, go_sem, ↓reduceIte, Nat.reduceEqDiff, Nat.reduceAdd, Nat.reduceMul, Nat.reduceLeDiff, Nat.reduceLT, Int.reduceLE, Int.reduceLT, reduceCtorEq]
    exact Kv.Fin.still ⟨by simp, rfl⟩
  | true =>
    try simp only [take6, List.drop_zero, Int.cast_ofNat_Int, go_sem, ↓reduceIte, Nat.reduceEqDiff, Nat.reduceAdd, Nat.reduceMul, Nat.reduceLeDiff, Nat.reduceLT, Int.reduceLE, Int.reduceLT, reduceCtorEq]
    refine ⟨fun h1 => Kv.Fin.still ⟨?_, rfl⟩, fun h1 => ?_⟩
    · have h2 : ¬ t.length ≤ 10 := by omega
      simp [h2]
    · refine (p67 t hb (by omega) t.length [] (by simp) (by simp)).lend (.cons Imm.still (.cons (Imm.refn (ver := 0) (e := 2) (l := []) rfl rfl) (.nil _))) ?_
      try simp only [take6, List.drop_zero, Int.cast_ofNat_Int, go_sem, ↓reduceIte, Nat.reduceEqDiff, Nat.reduceAdd, Nat.reduceMul, Nat.reduceLeDiff, Nat.reduceLT, Int.reduceLE, Int.reduceLT, reduceCtorEq]
      have h2 : t.length ≤ 10 := by omega
      exact Kv.Fin.still ⟨by simp [h2], rfl⟩
end Go.Proofs.Ytkljidghocnllaa
