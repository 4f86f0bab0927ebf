/- Counts by the number of fixed points: both sides walked. -/
import Derived.Test.YtpfapiiinkkcgaaGreatCb
import Derived.Test.YtpfapiiinkkcgaaGreatG2
import Derived.Test.YtpfapiiinkkcgaaGreatG1
namespace Go.Proofs.YtpfapiiinkkcgaaGreat
open Go.Kv
set_option maxRecDepth 100000
/- spec.CountByFixed -/
/- live [0, 4, 5] -/
def k11_b0 : KC := (.seq (.seq (.ops [⟨(some 10), none, .mv (.t 5)⟩, ⟨(some 11), none, .mv (.t 0)⟩, ⟨(some 12), none, .bin .leq (.t 10) (.t 11)⟩])
  (.cond (.t 12) .skip (.exit 0)))
  (.seq (.block 1 (.ops [⟨(some 15), none, .mv (.t 4)⟩, ⟨(some 16), none, .mv (.t 0)⟩, ⟨(some 17), none, .mv (.t 5)⟩, ⟨(some 18), none, .call (.c (.fn (.func 74) [] [])) [(.t 16), (.t 17)]⟩, ⟨(some 19), none, .mv (.t 0)⟩, ⟨(some 20), none, .bin .sub (.t 19) (.c (.int .i64 1))⟩, ⟨(some 21), none, .mv (.t 0)⟩, ⟨(some 22), none, .mv (.t 5)⟩, ⟨(some 23), none, .bin .sub (.t 21) (.t 22)⟩, ⟨(some 24), none, .call (.c (.fn (.func 75) [] [])) [(.t 20), (.t 23)]⟩, ⟨(some 25), none, .bin .mul (.t 18) (.t 24)⟩, ⟨(some 26), none, .bsl true 2 1 [(.t 25)]⟩, ⟨(some 27), none, .app (.t 15) (.t 26) 2 1⟩, ⟨(some 4), none, .mv (.t 27)⟩]))
  (.ops [⟨(some 13), none, .mv (.t 5)⟩, ⟨(some 14), none, .bin .add (.t 13) (.c (.int .i64 1))⟩, ⟨(some 5), none, .mv (.t 14)⟩])))
def k11 : KC := (.seq (.ops [⟨(some 2), none, .mv (.c (.nils))⟩, ⟨(some 3), none, .mv (.c (.int .i64 0))⟩])
  (.seq (.seq (.ops [⟨(some 6), none, .mv (.t 0)⟩, ⟨(some 7), none, .call (.c (.fn (.func 71) [] [])) [(.t 6), (.c (.int .i64 1)), (.c (.int .i64 12))]⟩, ⟨(some 8), none, .not (.t 7)⟩])
  (.cond (.t 8) (.seq (.ops [⟨(some 2), none, .mv (.c (.nils))⟩, ⟨(some 3), none, .mv (.c (.int .i64 2))⟩])
  .ret) .skip))
  (.seq (.ops [⟨(some 9), none, .bsl false 2 1 []⟩, ⟨(some 4), none, .mv (.t 9)⟩])
  (.seq (.seq (.ops [⟨(some 5), none, .mv (.c (.int .i64 0))⟩])
  (.block 0 (.loop k11_b0)))
  (.seq (.ops [⟨(some 28), none, .mv (.t 4)⟩, ⟨(some 2), none, .mv (.t 28)⟩, ⟨(some 3), none, .mv (.c (.int .i64 0))⟩])
  .ret)))))
theorem e11 {args : List PV} {σ : Heap} {K : PV → Heap → Prop} (hl : args.length ≤ 29) (h : Wf σ → (∀ a ∈ args, PV.upto σ.length a) → vc (mkCfg Tryz.prog mixed [26] 29 σ.length) k11 (FinK σ.length [.t 2, .t 3] K) (argEnv 0 args) σ) : ACall Tryz.prog 11 args σ K :=
  ACall_enter (C := mkCfg Tryz.prog mixed [26] 29 σ.length) (c := Tryz.f11.body.getD .skip) Tryz.func11 (by kernel_rfl) (by kernel_rfl) (by kernel_rfl) rfl hl (by kernel_rfl) (by kernel_rfl) h
/- impl.CountByFixed -/
/- live [0, 4, 10, 11] -/
def k10_b0 : KC := (.seq (.ops [⟨(some 12), none, .bin .lss (.t 11) (.t 10)⟩])
  (.seq (.cond (.t 12) .skip (.exit 0))
  (.seq (.block 1 (.seq (.ops [⟨(some 13), none, .mv (.t 11)⟩, ⟨(some 5), none, .mv (.t 13)⟩])
  (.ops [⟨(some 14), none, .mv (.t 4)⟩, ⟨(some 15), none, .mv (.t 0)⟩, ⟨(some 16), none, .mv (.t 5)⟩, ⟨(some 17), none, .call (.c (.fn (.func 72) [] [])) [(.t 15), (.t 16)]⟩, ⟨(some 18), none, .mv (.t 0)⟩, ⟨(some 19), none, .bin .sub (.t 18) (.c (.int .i64 1))⟩, ⟨(some 20), none, .mv (.t 0)⟩, ⟨(some 21), none, .mv (.t 5)⟩, ⟨(some 22), none, .bin .sub (.t 20) (.t 21)⟩, ⟨(some 23), none, .call (.c (.fn (.func 73) [] [])) [(.t 19), (.t 22)]⟩, ⟨(some 24), none, .bin .mul (.t 17) (.t 23)⟩, ⟨(some 25), none, .bsl true 2 1 [(.t 24)]⟩, ⟨(some 26), none, .app (.t 14) (.t 25) 2 1⟩, ⟨(some 4), none, .mv (.t 26)⟩])))
  (.ops [⟨(some 27), none, .bin .add (.t 11) (.c (.int .i64 1))⟩, ⟨(some 11), none, .mv (.t 27)⟩]))))
def k10 : KC := (.seq (.ops [⟨(some 2), none, .mv (.c (.nils))⟩, ⟨(some 3), none, .mv (.c (.int .i64 0))⟩])
  (.seq (.seq (.ops [⟨(some 6), none, .mv (.t 0)⟩, ⟨(some 7), none, .call (.c (.fn (.func 69) [] [])) [(.t 6)]⟩, ⟨(some 8), none, .not (.t 7)⟩])
  (.cond (.t 8) (.seq (.ops [⟨(some 2), none, .mv (.c (.nils))⟩, ⟨(some 3), none, .mv (.c (.int .i64 2))⟩])
  .ret) .skip))
  (.seq (.ops [⟨(some 4), none, .mv (.c (.nils))⟩])
  (.seq (.seq (.ops [⟨(some 9), none, .mv (.t 0)⟩, ⟨(some 10), none, .bin .add (.t 9) (.c (.int .i64 1))⟩, ⟨(some 11), none, .mv (.c (.int .i64 0))⟩])
  (.block 0 (.loop k10_b0)))
  (.seq (.ops [⟨(some 28), none, .mv (.t 4)⟩, ⟨(some 2), none, .mv (.t 28)⟩, ⟨(some 3), none, .mv (.c (.int .i64 0))⟩])
  .ret)))))
theorem e10 {args : List PV} {σ : Heap} {K : PV → Heap → Prop} (hl : args.length ≤ 29) (h : Wf σ → (∀ a ∈ args, PV.upto σ.length a) → vc (mkCfg Tryz.prog mixed [25] 29 σ.length) k10 (FinK σ.length [.t 2, .t 3] K) (argEnv 0 args) σ) : ACall Tryz.prog 10 args σ K :=
  ACall_enter (C := mkCfg Tryz.prog mixed [25] 29 σ.length) (c := Tryz.f10.body.getD .skip) Tryz.func10 (by kernel_rfl) (by kernel_rfl) (by kernel_rfl) rfl hl (by kernel_rfl) (by kernel_rfl) h
end Go.Proofs.YtpfapiiinkkcgaaGreat
namespace Go.Proofs.YtpfapiiinkkcgaaGreat
open Go.Kv
set_option linter.unusedVariables false
set_option linter.unusedSimpArgs false
attribute [local irreducible] ACall PCall KL
def cbf (n x : Nat) : List Int := (List.range x).map fun k => ch n k * ((n - 1 : Nat) : Int) ^ (n - k)
theorem cbf_succ (n x : Nat) : cbf n x ++ [ch n x * ((n - 1 : Nat) : Int) ^ (n - x)] = cbf n (x + 1) := by simp [cbf, List.range_succ]
theorem cbf_bound : ∀ n < 13, ∀ x < 13, 1 ≤ n → x ≤ n → 0 ≤ ch n x * ((n - 1 : Nat) : Int) ^ (n - x) ∧ ch n x * ((n - 1 : Nat) : Int) ^ (n - x) ≤ 10000000000000000 := by decide
theorem p11_out (a : Int) (h : ¬ (1 ≤ a ∧ a ≤ 12)) : Pure Tryz.prog 11 [.int .i64 a] (.tup [.nils, .int .i64 2]) := by
  refine e11 (by simp) fun _ _ => ?_
  simp only [k11, argEnv, go_sem, ↓reduceIte, Nat.reduceEqDiff, Nat.reduceAdd, reduceCtorEq]
  refine (p71 a 1 12).use (.bool _) (.cons (.int _ _ _) (.cons (.int _ _ _) (.cons (.int _ _ _) (.nil _)))) ?_
  simp only [go_sem, ↓reduceIte, Nat.reduceEqDiff, Nat.reduceAdd, reduceCtorEq]
  simp only [h, not_false_eq_true, true_implies, not_true_eq_false, false_implies, and_true]
  exact Kv.Fin.now ⟨rfl, rfl⟩
theorem p11_in (n : Nat) (h : 1 ≤ n ∧ n ≤ 12) : NewI Tryz.prog 11 [.int .i64 n] 2 (cbf n (n + 1)) 0 := by
  refine NewI.mk (n + 1) [] [] ?_
  refine e11 (by simp) fun _ _ => ?_
  simp only [k11, argEnv, go_sem, ↓reduceIte, Nat.reduceEqDiff, Nat.reduceAdd, reduceCtorEq]
  refine (p71 n 1 12).use (.bool _) (.cons (.int _ _ _) (.cons (.int _ _ _) (.cons (.int _ _ _) (.nil _)))) ?_
  simp only [go_sem, ↓reduceIte, Nat.reduceEqDiff, Nat.reduceAdd, reduceCtorEq]
  have hin : (1 : Int) ≤ n ∧ (n : Int) ≤ 12 := by omega
  simp only [hin, not_true_eq_false, true_implies, false_implies, true_and, and_self]
  refine KL_ind k11_b0.eq_1 (fun x : Nat => [(5, .int .i64 x), (4, .ref 0 x 0 x), (0, .int .i64 n)]) (fun x => [.arr x 2 1 (ints (cbf n x))]) (fun x => x ≤ n + 1) (fun x => n + 1 - x) [5, 4, 0] 0 rfl (by simp [cbf, ints]) (Nat.zero_le _) fun x hi ih => ?_
  simp only [go_sem, ↓reduceIte, Nat.reduceEqDiff, Nat.reduceAdd, reduceCtorEq]
  have hx1 : ∀ hx : (x : Int) ≤ n, (n : Int) - 1 = ((n - 1 : Nat) : Int) ∧ (n : Int) - x = ((n - x : Nat) : Int) := fun hx => ⟨by omega, by omega⟩
  refine ⟨fun hx => ?_, fun hx => ?_⟩
  · have hb := cbf_bound n (by omega) x (by omega) (by omega) (by omega)
    refine (p74 n x (by omega) (by omega)).use (.int _ _) (.cons (.int _ _ _) (.cons (.int _ _ _) (.nil _))) ?_
    simp only [go_sem, ↓reduceIte, Nat.reduceEqDiff, Nat.reduceAdd, reduceCtorEq]
    rw [(hx1 (by omega)).1, (hx1 (by omega)).2]
    refine ⟨by omega, by omega, ?_⟩
    refine (p75 (n - 1) (n - x) (by omega) (by omega)).use (.int _ _) (.cons (.int _ _ _) (.cons (.int _ _ _) (.nil _))) ?_
    simp only [go_sem, ↓reduceIte, Nat.reduceEqDiff, Nat.reduceAdd, reduceCtorEq]
    refine ⟨by omega, ⟨by simp [cbf], by omega⟩, by omega, ?_⟩
    refine ih (x + 1) (by omega) (by omega) _ _ rfl ?_
    have hl : (cbf n x).length = x := by simp [cbf]
    rw [List.take_of_length_le (by omega), cbf_succ]
  · obtain rfl : x = n + 1 := by omega
    refine Kv.Fin.now ⟨?_, rfl⟩
    simp [cbf]
theorem p10_out (a : Int) (h : ¬ (1 ≤ a ∧ a ≤ 12)) : Pure Tryz.prog 10 [.int .i64 a] (.tup [.nils, .int .i64 2]) := by
  refine e10 (by simp) fun _ _ => ?_
  simp only [k10, argEnv, go_sem, ↓reduceIte, Nat.reduceEqDiff, Nat.reduceAdd, reduceCtorEq]
  refine (p69 a).use (.bool _) (.cons (.int _ _ _) (.nil _)) ?_
  simp only [go_sem, ↓reduceIte, Nat.reduceEqDiff, Nat.reduceAdd, reduceCtorEq]
  simp only [h, not_false_eq_true, true_implies, not_true_eq_false, false_implies, and_true]
  exact Kv.Fin.now ⟨rfl, rfl⟩
theorem p10_in (n : Nat) (h : 1 ≤ n ∧ n ≤ 12) : NewI Tryz.prog 10 [.int .i64 n] 2 (cbf n (n + 1)) 0 := by
  refine NewI.mk n [] [] ?_
  refine e10 (by simp) fun _ _ => ?_
  simp only [k10, argEnv, go_sem, ↓reduceIte, Nat.reduceEqDiff, Nat.reduceAdd, reduceCtorEq]
  refine (p69 n).use (.bool _) (.cons (.int _ _ _) (.nil _)) ?_
  simp only [go_sem, ↓reduceIte, Nat.reduceEqDiff, Nat.reduceAdd, reduceCtorEq]
  have hin : (1 : Int) ≤ n ∧ (n : Int) ≤ 12 := by omega
  simp only [hin, not_true_eq_false, true_implies, false_implies, true_and, and_self]
  refine ⟨by omega, ?_⟩
  refine KL_ind k10_b0.eq_1 (fun x : Nat => [(11, .int .i64 x), (4, if x = 0 then .nils else .ref 0 (x - 1) 0 x), (0, .int .i64 n), (10, .int .i64 (n + 1))]) (fun x => if x = 0 then [] else [.arr (x - 1) 2 1 (ints (cbf n x))]) (fun x => x ≤ n + 1) (fun x => n + 1 - x) [11, 4, 0, 10] 0 rfl (by simp) (Nat.zero_le _) fun x hi ih => ?_
  simp only [go_sem, ↓reduceIte, Nat.reduceEqDiff, Nat.reduceAdd, reduceCtorEq]
  have hx1 : ∀ hx : (x : Int) ≤ n, (n : Int) - 1 = ((n - 1 : Nat) : Int) ∧ (n : Int) - x = ((n - x : Nat) : Int) := fun hx => ⟨by omega, by omega⟩
  refine ⟨fun hx => ?_, fun hx => ?_⟩
  · have hb := cbf_bound n (by omega) x (by omega) (by omega) (by omega)
    refine (p72 n x (by omega) (by omega)).use (.int _ _) (.cons (.int _ _ _) (.cons (.int _ _ _) (.nil _))) ?_
    simp only [go_sem, ↓reduceIte, Nat.reduceEqDiff, Nat.reduceAdd, reduceCtorEq]
    rw [(hx1 (by omega)).1, (hx1 (by omega)).2]
    refine ⟨by omega, by omega, ?_⟩
    refine (p73 (n - 1) (n - x) (by omega) (by omega)).use (.int _ _) (.cons (.int _ _ _) (.cons (.int _ _ _) (.nil _))) ?_
    simp only [go_sem, ↓reduceIte, Nat.reduceEqDiff, Nat.reduceAdd, reduceCtorEq]
    refine ⟨by omega, ?_⟩
    rcases x with _ | x
    · simp only [go_sem, ↓reduceIte, Nat.reduceEqDiff, Nat.reduceAdd, reduceCtorEq]
      repeat' (first | refine And.intro ?_ ?_ | intro _)
      all_goals (try omega)
      refine ih 1 (by omega) (by omega) _ _ ?_ ?_
      · simp [keep]
      · simp [cbf, ints]
    · have hne : ¬ (x + 1 = 0) := by omega
      simp only [hne, if_false, Nat.add_sub_cancel]
      simp only [go_sem, ↓reduceIte, Nat.reduceEqDiff, Nat.reduceAdd, reduceCtorEq]
      have hl : (cbf n (x + 1)).length = x + 1 := by simp [cbf]
      refine ⟨⟨by omega, by omega⟩, by omega, ?_⟩
      refine ih (x + 1 + 1) (by omega) (by omega) _ _ rfl ?_
      rw [List.take_of_length_le (by omega), cbf_succ]
      rfl
  · obtain rfl : x = n + 1 := by omega
    have hne : ¬ (n + 1 = 0) := by omega
    simp only [hne, if_false]
    simp only [go_sem, ↓reduceIte, Nat.reduceEqDiff, Nat.reduceAdd, reduceCtorEq]
    refine Kv.Fin.now ⟨?_, ?_⟩ <;> simp [cbf]

end Go.Proofs.YtpfapiiinkkcgaaGreat
