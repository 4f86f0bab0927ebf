/- Tables: what a table is, by both sides; searching by a predicate. -/
import Derived.Test.YtpepbomifjbgnaaCb
import Derived.Test.YtpepbomifjbgnaaT
import Derived.Test.YtpepbomifjbgnaaA
import Derived.Test.YtpepbomifjbgnaaSq
namespace Go.Proofs.Ytpepbomifjbgnaa
open Go.Kv
set_option maxRecDepth 100000
/- spec.l08Is -/
/- live [0, 3, 4, 5] -/
def k44_b0 : KC := (.seq (.seq (.ops [⟨(some 26), none, .mv (.t 5)⟩, ⟨(some 27), none, .mv (.t 3)⟩, ⟨(some 28), none, .bin .lss (.t 26) (.t 27)⟩])
  (.cond (.t 28) .skip (.exit 2)))
  (.seq (.block 3 (.seq (.ops [⟨(some 31), none, .mv (.t 0)⟩, ⟨(some 32), none, .mv (.t 4)⟩, ⟨(some 33), none, .idxS 1 (.t 31) (.t 32)⟩, ⟨(some 34), none, .load false 1 (.t 33)⟩, ⟨(some 35), none, .mv (.t 5)⟩, ⟨(some 36), none, .idxS 1 (.t 34) (.t 35)⟩, ⟨(some 37), none, .load false 1 (.t 36)⟩, ⟨(some 38), none, .mv (.t 3)⟩, ⟨(some 39), none, .bin .sub (.t 38) (.c (.int .i64 1))⟩, ⟨(some 40), none, .call (.c (.fn (.func 90) [] [])) [(.t 37), (.c (.int .i64 0)), (.t 39)]⟩, ⟨(some 41), none, .not (.t 40)⟩])
  (.cond (.t 41) (.seq (.ops [⟨(some 2), none, .mv (.c (.bool false))⟩])
  .ret) .skip)))
  (.ops [⟨(some 29), none, .mv (.t 5)⟩, ⟨(some 30), none, .bin .add (.t 29) (.c (.int .i64 1))⟩, ⟨(some 5), none, .mv (.t 30)⟩])))
/- live [0, 3, 4] -/
def k44_b1 : KC := (.seq (.seq (.ops [⟨(some 14), none, .mv (.t 4)⟩, ⟨(some 15), none, .mv (.t 3)⟩, ⟨(some 16), none, .bin .lss (.t 14) (.t 15)⟩])
  (.cond (.t 16) .skip (.exit 0)))
  (.seq (.block 1 (.seq (.seq (.ops [⟨(some 19), none, .mv (.t 0)⟩, ⟨(some 20), none, .mv (.t 4)⟩, ⟨(some 21), none, .idxS 1 (.t 19) (.t 20)⟩, ⟨(some 22), none, .load false 1 (.t 21)⟩, ⟨(some 23), none, .len false (.t 22)⟩, ⟨(some 24), none, .mv (.t 3)⟩, ⟨(some 25), none, .bin .neq (.t 23) (.t 24)⟩])
  (.cond (.t 25) (.seq (.ops [⟨(some 2), none, .mv (.c (.bool false))⟩])
  .ret) .skip))
  (.seq (.ops [⟨(some 5), none, .mv (.c (.int .i64 0))⟩])
  (.block 2 (.loop k44_b0)))))
  (.ops [⟨(some 17), none, .mv (.t 4)⟩, ⟨(some 18), none, .bin .add (.t 17) (.c (.int .i64 1))⟩, ⟨(some 4), none, .mv (.t 18)⟩])))
def k44 : KC := (.seq (.ops [⟨(some 2), none, .mv (.c (.bool false))⟩])
  (.seq (.ops [⟨(some 6), none, .mv (.t 0)⟩, ⟨(some 7), none, .len false (.t 6)⟩, ⟨(some 3), none, .mv (.t 7)⟩])
  (.seq (.seq (.ops [⟨(some 8), none, .mv (.t 3)⟩, ⟨(some 9), none, .bin .lss (.t 8) (.c (.int .i64 1))⟩, ⟨(some 10), none, .mv (.t 9)⟩, ⟨(some 11), some (10, false), .mv (.t 3)⟩, ⟨(some 12), some (10, false), .bin .gtr (.t 11) (.c (.int .i64 40))⟩, ⟨(some 13), none, .pick (.t 10) (.c (.bool true)) (.t 12)⟩])
  (.cond (.t 13) (.seq (.ops [⟨(some 2), none, .mv (.c (.bool false))⟩])
  .ret) .skip))
  (.seq (.seq (.ops [⟨(some 4), none, .mv (.c (.int .i64 0))⟩])
  (.block 0 (.loop k44_b1)))
  (.seq (.ops [⟨(some 2), none, .mv (.c (.bool true))⟩])
  .ret)))))
theorem e44 {args : List PV} {σ : Heap} {K : PV → Heap → Prop} (hl : args.length ≤ 42) (h : Wf σ → (∀ a ∈ args, PV.upto σ.length a) → vc (mkCfg Try.prog mixed [] 42 σ.length) k44 (FinK σ.length [.t 2] K) (argEnv 0 args) σ) : ACall Try.prog 44 args σ K :=
  ACall_enter (C := mkCfg Try.prog mixed [] 42 σ.length) (c := Try.f44.body.getD .skip) Try.func44 (by kernel_rfl) (by kernel_rfl) (by kernel_rfl) rfl hl (by kernel_rfl) (by kernel_rfl) h
/- impl.isTable -/
def k46 : KC := (.seq (.ops [⟨(some 2), none, .mv (.c (.bool false))⟩])
  (.seq (.ops [⟨(some 4), none, .mv (.t 0)⟩, ⟨(some 5), none, .len false (.t 4)⟩, ⟨(some 3), none, .alloc [.int .i64 0]⟩, ⟨none, none, .store 1 (.t 3) (.t 5)⟩])
  (.seq (.ops [⟨(some 6), none, .load false 1 (.t 3)⟩, ⟨(some 7), none, .call (.c (.fn (.func 91) [] [])) [(.t 6), (.c (.int .i64 1)), (.c (.int .i64 40))]⟩, ⟨(some 8), none, .mv (.t 7)⟩, ⟨(some 9), some (8, true), .mv (.t 0)⟩, ⟨(some 10), some (8, true), .mkfn (.func 92) [] [(.t 3)]⟩, ⟨(some 11), some (8, true), .call (.c (.fn (.func 63) [] [])) [(.t 9), (.t 10)]⟩, ⟨(some 12), some (8, true), .not (.t 11)⟩, ⟨(some 13), none, .pick (.t 8) (.t 12) (.c (.bool false))⟩, ⟨(some 2), none, .mv (.t 13)⟩])
  .ret)))
theorem e46 {args : List PV} {σ : Heap} {K : PV → Heap → Prop} (hl : args.length ≤ 14) (h : Wf σ → (∀ a ∈ args, PV.upto σ.length a) → vc (mkCfg Try.prog mixed [] 14 σ.length) k46 (FinK σ.length [.t 2] K) (argEnv 0 args) σ) : ACall Try.prog 46 args σ K :=
  ACall_enter (C := mkCfg Try.prog mixed [] 14 σ.length) (c := Try.f46.body.getD .skip) Try.func46 (by kernel_rfl) (by kernel_rfl) (by kernel_rfl) rfl hl (by kernel_rfl) (by kernel_rfl) h
/- slices.ContainsFunc[[][]int64,[]int64] -/
def k63 : KC := (.seq (.ops [⟨(some 4), none, .mv (.c (.bool false))⟩])
  (.seq (.ops [⟨(some 5), none, .mv (.t 0)⟩, ⟨(some 6), none, .mv (.t 1)⟩, ⟨(some 7), none, .call (.c (.fn (.func 109) [] [])) [(.t 5), (.t 6)]⟩, ⟨(some 8), none, .bin .geq (.t 7) (.c (.int .i64 0))⟩, ⟨(some 4), none, .mv (.t 8)⟩])
  .ret))
theorem e63 {args : List PV} {σ : Heap} {K : PV → Heap → Prop} (hl : args.length ≤ 9) (h : Wf σ → (∀ a ∈ args, PV.upto σ.length a) → vc (mkCfg Try.prog mixed [] 9 σ.length) k63 (FinK σ.length [.t 4] K) (argEnv 0 args) σ) : ACall Try.prog 63 args σ K :=
  ACall_enter (C := mkCfg Try.prog mixed [] 9 σ.length) (c := Try.f63.body.getD .skip) Try.func63 (by kernel_rfl) (by kernel_rfl) (by kernel_rfl) rfl hl (by kernel_rfl) (by kernel_rfl) h
/- impl.isTable$1 -/
def k92 : KC := (.seq (.ops [⟨(some 3), none, .mv (.c (.bool false))⟩])
  (.seq (.ops [⟨(some 4), none, .mv (.t 0)⟩, ⟨(some 5), none, .len false (.t 4)⟩, ⟨(some 6), none, .load false 1 (.t 1)⟩, ⟨(some 7), none, .bin .neq (.t 5) (.t 6)⟩, ⟨(some 8), none, .mv (.t 7)⟩, ⟨(some 9), some (8, false), .mv (.t 0)⟩, ⟨(some 10), some (8, false), .mkfn (.func 94) [] [(.t 1)]⟩, ⟨(some 11), some (8, false), .call (.c (.fn (.func 93) [] [])) [(.t 9), (.t 10)]⟩, ⟨(some 12), none, .pick (.t 8) (.c (.bool true)) (.t 11)⟩, ⟨(some 3), none, .mv (.t 12)⟩])
  .ret))
theorem e92 {args : List PV} {σ : Heap} {K : PV → Heap → Prop} (hl : args.length ≤ 13) (h : Wf σ → (∀ a ∈ args, PV.upto σ.length a) → vc (mkCfg Try.prog mixed [] 13 σ.length) k92 (FinK σ.length [.t 3] K) (argEnv 0 args) σ) : ACall Try.prog 92 args σ K :=
  ACall_enter (C := mkCfg Try.prog mixed [] 13 σ.length) (c := Try.f92.body.getD .skip) Try.func92 (by kernel_rfl) (by kernel_rfl) (by kernel_rfl) rfl hl (by kernel_rfl) (by kernel_rfl) h
/- slices.ContainsFunc[[]int64,int64] -/
def k93 : KC := (.seq (.ops [⟨(some 4), none, .mv (.c (.bool false))⟩])
  (.seq (.ops [⟨(some 5), none, .mv (.t 0)⟩, ⟨(some 6), none, .mv (.t 1)⟩, ⟨(some 7), none, .call (.c (.fn (.func 123) [] [])) [(.t 5), (.t 6)]⟩, ⟨(some 8), none, .bin .geq (.t 7) (.c (.int .i64 0))⟩, ⟨(some 4), none, .mv (.t 8)⟩])
  .ret))
theorem e93 {args : List PV} {σ : Heap} {K : PV → Heap → Prop} (hl : args.length ≤ 9) (h : Wf σ → (∀ a ∈ args, PV.upto σ.length a) → vc (mkCfg Try.prog mixed [] 9 σ.length) k93 (FinK σ.length [.t 4] K) (argEnv 0 args) σ) : ACall Try.prog 93 args σ K :=
  ACall_enter (C := mkCfg Try.prog mixed [] 9 σ.length) (c := Try.f93.body.getD .skip) Try.func93 (by kernel_rfl) (by kernel_rfl) (by kernel_rfl) rfl hl (by kernel_rfl) (by kernel_rfl) h
/- impl.isTable$1$1 -/
def k94 : KC := (.seq (.ops [⟨(some 3), none, .mv (.c (.bool false))⟩])
  (.seq (.ops [⟨(some 4), none, .mv (.t 0)⟩, ⟨(some 5), none, .load false 1 (.t 1)⟩, ⟨(some 6), none, .bin .sub (.t 5) (.c (.int .i64 1))⟩, ⟨(some 7), none, .call (.c (.fn (.func 91) [] [])) [(.t 4), (.c (.int .i64 0)), (.t 6)]⟩, ⟨(some 8), none, .not (.t 7)⟩, ⟨(some 3), none, .mv (.t 8)⟩])
  .ret))
theorem e94 {args : List PV} {σ : Heap} {K : PV → Heap → Prop} (hl : args.length ≤ 9) (h : Wf σ → (∀ a ∈ args, PV.upto σ.length a) → vc (mkCfg Try.prog mixed [] 9 σ.length) k94 (FinK σ.length [.t 3] K) (argEnv 0 args) σ) : ACall Try.prog 94 args σ K :=
  ACall_enter (C := mkCfg Try.prog mixed [] 9 σ.length) (c := Try.f94.body.getD .skip) Try.func94 (by kernel_rfl) (by kernel_rfl) (by kernel_rfl) rfl hl (by kernel_rfl) (by kernel_rfl) h
/- slices.IndexFunc[[]int64,int64] -/
/- live [0, 1, 7, 8] -/
def k123_b0 : KC := (.seq (.ops [⟨(some 9), none, .bin .lss (.t 8) (.t 7)⟩])
  (.seq (.cond (.t 9) .skip (.exit 0))
  (.seq (.block 1 (.seq (.ops [⟨(some 10), none, .mv (.t 8)⟩, ⟨(some 5), none, .mv (.t 10)⟩])
  (.seq (.ops [⟨(some 11), none, .mv (.t 1)⟩, ⟨(some 12), none, .mv (.t 0)⟩, ⟨(some 13), none, .mv (.t 5)⟩, ⟨(some 14), none, .idxS 1 (.t 12) (.t 13)⟩, ⟨(some 15), none, .load false 1 (.t 14)⟩, ⟨(some 16), none, .call (.t 11) [(.t 15)]⟩])
  (.cond (.t 16) (.seq (.ops [⟨(some 17), none, .mv (.t 5)⟩, ⟨(some 4), none, .mv (.t 17)⟩])
  .ret) .skip))))
  (.ops [⟨(some 18), none, .bin .add (.t 8) (.c (.int .i64 1))⟩, ⟨(some 8), none, .mv (.t 18)⟩]))))
def k123 : KC := (.seq (.ops [⟨(some 4), none, .mv (.c (.int .i64 0))⟩])
  (.seq (.seq (.ops [⟨(some 6), none, .mv (.t 0)⟩, ⟨(some 7), none, .len false (.t 6)⟩, ⟨(some 8), none, .mv (.c (.int .i64 0))⟩])
  (.block 0 (.loop k123_b0)))
  (.seq (.ops [⟨(some 4), none, .mv (.c (.int .i64 (-1)))⟩])
  .ret)))
theorem e123 {args : List PV} {σ : Heap} {K : PV → Heap → Prop} (hl : args.length ≤ 19) (h : Wf σ → (∀ a ∈ args, PV.upto σ.length a) → vc (mkCfg Try.prog mixed [] 19 σ.length) k123 (FinK σ.length [.t 4] K) (argEnv 0 args) σ) : ACall Try.prog 123 args σ K :=
  ACall_enter (C := mkCfg Try.prog mixed [] 19 σ.length) (c := Try.f123.body.getD .skip) Try.func123 (by kernel_rfl) (by kernel_rfl) (by kernel_rfl) rfl hl (by kernel_rfl) (by kernel_rfl) h
/- slices.IndexFunc[[][]int64,[]int64] -/
/- live [0, 1, 7, 8] -/
def k109_b0 : KC := (.seq (.ops [⟨(some 9), none, .bin .lss (.t 8) (.t 7)⟩])
  (.seq (.cond (.t 9) .skip (.exit 0))
  (.seq (.block 1 (.seq (.ops [⟨(some 10), none, .mv (.t 8)⟩, ⟨(some 5), none, .mv (.t 10)⟩])
  (.seq (.ops [⟨(some 11), none, .mv (.t 1)⟩, ⟨(some 12), none, .mv (.t 0)⟩, ⟨(some 13), none, .mv (.t 5)⟩, ⟨(some 14), none, .idxS 1 (.t 12) (.t 13)⟩, ⟨(some 15), none, .load false 1 (.t 14)⟩, ⟨(some 16), none, .call (.t 11) [(.t 15)]⟩])
  (.cond (.t 16) (.seq (.ops [⟨(some 17), none, .mv (.t 5)⟩, ⟨(some 4), none, .mv (.t 17)⟩])
  .ret) .skip))))
  (.ops [⟨(some 18), none, .bin .add (.t 8) (.c (.int .i64 1))⟩, ⟨(some 8), none, .mv (.t 18)⟩]))))
def k109 : KC := (.seq (.ops [⟨(some 4), none, .mv (.c (.int .i64 0))⟩])
  (.seq (.seq (.ops [⟨(some 6), none, .mv (.t 0)⟩, ⟨(some 7), none, .len false (.t 6)⟩, ⟨(some 8), none, .mv (.c (.int .i64 0))⟩])
  (.block 0 (.loop k109_b0)))
  (.seq (.ops [⟨(some 4), none, .mv (.c (.int .i64 (-1)))⟩])
  .ret)))
theorem e109 {args : List PV} {σ : Heap} {K : PV → Heap → Prop} (hl : args.length ≤ 19) (h : Wf σ → (∀ a ∈ args, PV.upto σ.length a) → vc (mkCfg Try.prog mixed [] 19 σ.length) k109 (FinK σ.length [.t 4] K) (argEnv 0 args) σ) : ACall Try.prog 109 args σ K :=
  ACall_enter (C := mkCfg Try.prog mixed [] 19 σ.length) (c := Try.f109.body.getD .skip) Try.func109 (by kernel_rfl) (by kernel_rfl) (by kernel_rfl) rfl hl (by kernel_rfl) (by kernel_rfl) h
end Go.Proofs.Ytpepbomifjbgnaa
namespace Go.Proofs.Ytpepbomifjbgnaa
open Go.Kv
set_option linter.unusedVariables false
set_option linter.unusedSimpArgs false
attribute [local irreducible] ACall PCall KL
/-- A row is one of a table of n: its length, its members. -/
def rowOk (n : Nat) (r : List Int) : Bool := decide (r.length = n) && r.all fun x => decide (0 ≤ x ∧ x ≤ (n : Int) - 1)
def isTab (t : List (List Int)) : Bool := decide (1 ≤ t.length ∧ t.length ≤ 40) && t.all (rowOk t.length)
theorem p44 (t : List (List Int)) (ht : t.length ≤ 1048576) (hl : ∀ r ∈ t, r.length ≤ 1048576) : Pure Try.prog 44 [.list (rows t)] (.bool (isTab t)) := by
  refine e44 (by simp) fun _ _ => ?_
  simp only [k44, argEnv, go_sem, ↓reduceIte, Nat.reduceEqDiff, Nat.reduceAdd, reduceCtorEq]
  by_cases h0 : (t.length : Int) < 1
  · have : isTab t = false := by simp [isTab]; omega
    simp only [h0, this, decide_true, true_implies, not_true_eq_false, false_implies, and_true]
    repeat' (first | refine And.intro ?_ ?_ | intro _)
    all_goals (try first | exact True.intro | contradiction)
    exact Kv.Fin.now ⟨rfl, rfl⟩
  by_cases h1 : 40 < (t.length : Int)
  · have : isTab t = false := by simp [isTab]; omega
    simp only [h0, h1, this, decide_true, true_implies, not_false_eq_true, not_true_eq_false, false_implies, and_true, true_and]
    exact Kv.Fin.now ⟨rfl, rfl⟩
  simp only [h0, h1, decide_false, not_false_eq_true, true_implies, not_true_eq_false, false_implies, and_true, true_and]
  have hT : isTab t = t.all (rowOk t.length) := by
    have : 1 ≤ t.length ∧ t.length ≤ 40 := by omega
    simp [isTab, this]
  rw [hT]
  refine KL_ind k44_b1.eq_1 (fun x : Nat => [(4, .int .i64 x), (3, .int .i64 t.length), (0, .list (rows t))]) (fun _ => []) (fun x => x ≤ t.length ∧ (t.take x).all (rowOk t.length) = true) (fun x => t.length - x) [4, 3, 0] 0 rfl rfl ⟨Nat.zero_le _, by simp⟩ fun x ⟨hx, hall⟩ ihx => ?_
  simp only [go_sem, ↓reduceIte, Nat.reduceEqDiff, Nat.reduceAdd, reduceCtorEq]
  refine ⟨fun h2 => ⟨by omega, fun h3 => ?_⟩, fun h2 => ?_⟩
  · have hr := getD_eq h3 ([] : List Int)
    rw [hr]
    have hlen := hl _ (List.getElem_mem h3)
    refine ⟨fun h4 => ?_, fun h4 => ?_⟩
    · refine Kv.Fin.now ⟨?_, rfl⟩
      rw [not_all h3 (by simp [rowOk]; omega)]
    · have h4' : t[x].length = t.length := by omega
      refine KL_ind k44_b0.eq_1 (fun y : Nat => [(5, .int .i64 y), (4, .int .i64 x), (3, .int .i64 t.length), (0, .list (rows t))]) (fun _ => []) (fun y => y ≤ t.length ∧ (t[x].take y).all (fun x => decide (0 ≤ x ∧ x ≤ (t.length : Int) - 1)) = true) (fun y => t.length - y) [5, 4, 3, 0] 0 rfl rfl ⟨Nat.zero_le _, by simp⟩ fun y ⟨hy, hyall⟩ ihy => ?_
      simp only [go_sem, ↓reduceIte, Nat.reduceEqDiff, Nat.reduceAdd, reduceCtorEq]
      refine ⟨fun h5 => ⟨by omega, fun h6 => ?_⟩, fun h5 => ?_⟩
      · rw [hr]
        refine ⟨by omega, fun h7 => ?_⟩
        rw [getD_eq h7]
        refine ⟨by omega, ?_⟩
        refine (p90 _ _ _).use (.bool _) (.cons (.int _ _ _) (.cons (.int _ _ _) (.cons (.int _ _ _) (.nil _)))) ?_
        simp only [go_sem, ↓reduceIte, Nat.reduceEqDiff, Nat.reduceAdd, reduceCtorEq]
        refine ⟨fun h8 => ?_, fun h8 => ⟨by omega, ?_⟩⟩
        · refine Kv.Fin.now ⟨?_, rfl⟩
          rw [not_all h3 (by simp only [rowOk]; rw [not_all h7 (by simpa using h8), Bool.and_false])]
        · refine ihy (y + 1) ⟨by omega, ?_⟩ (by omega) _ _ rfl rfl
          rw [all_take_succ _ h7, hyall]
          simpa using h8
      · obtain rfl : y = t.length := by omega
        refine ⟨by omega, ?_⟩
        refine ihx (x + 1) ⟨by omega, ?_⟩ (by omega) _ _ rfl rfl
        rw [all_take_succ _ h3, hall]
        rw [← h4', List.take_length] at hyall
        rw [h4'] at hyall
        simp only [rowOk, h4', decide_true, Bool.true_and, hyall]
  · obtain rfl : x = t.length := by omega
    rw [List.take_length] at hall
    exact Kv.Fin.now ⟨by rw [hall], rfl⟩

theorem Imm.boxi {σ : Heap} {id : Nat} {n : Int} (h : σ[id]? = some (.box [.int .i64 n])) : Imm σ (.ptr id 0) (.fptr [.int .i64 n] 0) := .ptr id 0 [.int .i64 n] [.int .i64 n] h rfl rfl (fun i c d h1 h2 => by
  rw [h1] at h2; cases h2
  have := List.mem_of_getElem? h1
  simp at this; subst this
  exact .int _ _ _)
theorem up_fi (n : Int) : ∀ c ∈ [PV.fptr [.int .i64 n] 0], PV.upto 0 c := up1 (upto_fptr 0 0 fun c hc => by simp at hc; subst hc; exact .int _ _)
theorem p123 (l : List Int) (hl : l.length ≤ 4294967296) (fid : FuncId) (caps : List PV) (hc : ∀ c ∈ caps, PV.upto 0 c) (p : Int → Bool) (hp : ∀ x ∈ l, Pure Try.prog fid (.int .i64 x :: caps) (.bool (p x))) :
    Pure Try.prog 123 [.list (ints l), .fn (.func fid) [] caps] (.int .i64 (idx p l)) := by
  refine e123 (by simp) fun _ _ => ?_
  simp only [k123, argEnv, go_sem, ↓reduceIte, Nat.reduceEqDiff, Nat.reduceAdd, reduceCtorEq]
  refine KL_ind k123_b0.eq_1 (fun x : Nat => [(8, .int .i64 x), (7, .int .i64 l.length), (0, .list (ints l)), (1, .fn (.func fid) [] caps)]) (fun _ => []) (fun x => x ≤ l.length ∧ (l.take x).any p = false) (fun x => l.length - x) [8, 7, 0, 1] 0 rfl rfl ⟨Nat.zero_le _, by simp⟩ fun x ⟨hx, hall⟩ ih => ?_
  simp only [go_sem, ↓reduceIte, Nat.reduceEqDiff, Nat.reduceAdd, reduceCtorEq]
  refine ⟨fun h1 => ⟨by omega, fun h2 => ?_⟩, fun h1 => ?_⟩
  · rw [getD_eq h2]
    refine (hp _ (List.getElem_mem h2)).use (.bool _) (.cons (.int _ _ _) (up_self hc)) ?_
    simp only [go_sem, ↓reduceIte, Nat.reduceEqDiff, Nat.reduceAdd, reduceCtorEq]
    refine ⟨fun h3 => ?_, fun h3 => ⟨by omega, ?_⟩⟩
    · exact Kv.Fin.now ⟨by rw [idx_some h2 hall h3], rfl⟩
    · refine ih (x + 1) ⟨by omega, ?_⟩ (by omega) _ _ rfl rfl
      rw [any_take_succ _ h2, hall, h3]; rfl
  · obtain rfl : x = l.length := by omega
    rw [List.take_length] at hall
    exact Kv.Fin.now ⟨by rw [idx_none hall], rfl⟩
theorem p109 (l : List (List Int)) (hl : l.length ≤ 4294967296) (fid : FuncId) (caps : List PV) (hc : ∀ c ∈ caps, PV.upto 0 c) (p : List Int → Bool) (hp : ∀ x ∈ l, Pure Try.prog fid (.list (ints x) :: caps) (.bool (p x))) :
    Pure Try.prog 109 [.list (rows l), .fn (.func fid) [] caps] (.int .i64 (idx p l)) := by
  refine e109 (by simp) fun _ _ => ?_
  simp only [k109, argEnv, go_sem, ↓reduceIte, Nat.reduceEqDiff, Nat.reduceAdd, reduceCtorEq]
  refine KL_ind k109_b0.eq_1 (fun x : Nat => [(8, .int .i64 x), (7, .int .i64 l.length), (0, .list (rows l)), (1, .fn (.func fid) [] caps)]) (fun _ => []) (fun x => x ≤ l.length ∧ (l.take x).any p = false) (fun x => l.length - x) [8, 7, 0, 1] 0 rfl rfl ⟨Nat.zero_le _, by simp⟩ fun x ⟨hx, hall⟩ ih => ?_
  simp only [go_sem, ↓reduceIte, Nat.reduceEqDiff, Nat.reduceAdd, reduceCtorEq]
  refine ⟨fun h1 => ⟨by omega, fun h2 => ?_⟩, fun h1 => ?_⟩
  · rw [getD_eq h2]
    refine (hp _ (List.getElem_mem h2)).use (.bool _) (.cons (.listi _ _) (up_self hc)) ?_
    simp only [go_sem, ↓reduceIte, Nat.reduceEqDiff, Nat.reduceAdd, reduceCtorEq]
    refine ⟨fun h3 => ?_, fun h3 => ⟨by omega, ?_⟩⟩
    · exact Kv.Fin.now ⟨by rw [idx_some h2 hall h3], rfl⟩
    · refine ih (x + 1) ⟨by omega, ?_⟩ (by omega) _ _ rfl rfl
      rw [any_take_succ _ h2, hall, h3]; rfl
  · obtain rfl : x = l.length := by omega
    rw [List.take_length] at hall
    exact Kv.Fin.now ⟨by rw [idx_none hall], rfl⟩
theorem p93 (l : List Int) (hl : l.length ≤ 4294967296) (fid : FuncId) (caps : List PV) (hc : ∀ c ∈ caps, PV.upto 0 c) (p : Int → Bool) (hp : ∀ x ∈ l, Pure Try.prog fid (.int .i64 x :: caps) (.bool (p x))) :
    Pure Try.prog 93 [.list (ints l), .fn (.func fid) [] caps] (.bool (l.any p)) := by
  refine e93 (by simp) fun _ _ => ?_
  simp only [k93, argEnv, go_sem, ↓reduceIte, Nat.reduceEqDiff, Nat.reduceAdd, reduceCtorEq]
  refine (p123 l hl fid caps hc p hp).use (.int _ _) (.cons (.listi _ _) (.cons (Imm.fnc _ (up_self hc)) (.nil _))) ?_
  simp only [go_sem, ↓reduceIte, Nat.reduceEqDiff, Nat.reduceAdd, reduceCtorEq]
  exact Kv.Fin.now ⟨by rw [idx_nonneg], rfl⟩
theorem p63 (l : List (List Int)) (hl : l.length ≤ 4294967296) (fid : FuncId) (caps : List PV) (hc : ∀ c ∈ caps, PV.upto 0 c) (p : List Int → Bool) (hp : ∀ x ∈ l, Pure Try.prog fid (.list (ints x) :: caps) (.bool (p x))) :
    Pure Try.prog 63 [.list (rows l), .fn (.func fid) [] caps] (.bool (l.any p)) := by
  refine e63 (by simp) fun _ _ => ?_
  simp only [k63, argEnv, go_sem, ↓reduceIte, Nat.reduceEqDiff, Nat.reduceAdd, reduceCtorEq]
  refine (p109 l hl fid caps hc p hp).use (.int _ _) (.cons (.listr _ _) (.cons (Imm.fnc _ (up_self hc)) (.nil _))) ?_
  simp only [go_sem, ↓reduceIte, Nat.reduceEqDiff, Nat.reduceAdd, reduceCtorEq]
  exact Kv.Fin.now ⟨by rw [idx_nonneg], rfl⟩
theorem p94 (x : Int) (n : Nat) (hn : n ≤ 1048576) : Pure Try.prog 94 [.int .i64 x, .fptr [.int .i64 n] 0] (.bool (!decide (0 ≤ x ∧ x ≤ (n : Int) - 1))) := by
  refine e94 (by simp) fun _ _ => ?_
  simp only [k94, argEnv, go_sem, ↓reduceIte, Nat.reduceEqDiff, Nat.reduceAdd, reduceCtorEq]
  refine ⟨by omega, ?_⟩
  refine (p91 _ _ _).use (.bool _) (.cons (.int _ _ _) (.cons (.int _ _ _) (.cons (.int _ _ _) (.nil _)))) ?_
  simp only [go_sem, ↓reduceIte, Nat.reduceEqDiff, Nat.reduceAdd, reduceCtorEq]
  exact Kv.Fin.now ⟨rfl, rfl⟩
theorem p92 (r : List Int) (n : Nat) (hn : n ≤ 1048576) (hr : r.length ≤ 1048576) : Pure Try.prog 92 [.list (ints r), .fptr [.int .i64 n] 0] (.bool (!rowOk n r)) := by
  refine e92 (by simp) fun _ _ => ?_
  simp only [k92, argEnv, go_sem, ↓reduceIte, Nat.reduceEqDiff, Nat.reduceAdd, reduceCtorEq]
  by_cases h : (r.length : Int) = n
  · have h' : r.length = n := by omega
    simp only [h, h', not_true_eq_false, decide_false, false_implies, true_implies, true_and, and_true]
    refine (p93 r (by omega) 94 [.fptr [.int .i64 n] 0] (up_fi n) (fun x => !decide (0 ≤ x ∧ x ≤ (n : Int) - 1)) fun x _ => p94 x n hn).use (.bool _) (.cons (.listi _ _) (.cons (Imm.fnc _ (up_self (up_fi n))) (.nil _))) ?_
    simp only [go_sem, ↓reduceIte, Nat.reduceEqDiff, Nat.reduceAdd, reduceCtorEq]
    refine Kv.Fin.now ⟨?_, rfl⟩
    simp [rowOk, h', List.any_eq_not_all_not]
  · have h' : ¬ r.length = n := by omega
    simp only [h, h', not_false_eq_true, decide_true, false_implies, true_implies, true_and, and_true, not_true_eq_false]
    repeat' (first | refine And.intro ?_ ?_ | intro _)
    all_goals (try contradiction)
    refine Kv.Fin.now ⟨?_, rfl⟩
    simp [rowOk, h']
theorem p46 (t : List (List Int)) (ht : t.length ≤ 1048576) (hl : ∀ r ∈ t, r.length ≤ 1048576) : Pure Try.prog 46 [.list (rows t)] (.bool (isTab t)) := by
  refine e46 (by simp) fun _ _ => ?_
  simp only [k46, argEnv, go_sem, ↓reduceIte, Nat.reduceEqDiff, Nat.reduceAdd, reduceCtorEq]
  refine ⟨by omega, ?_⟩
  refine (p91 _ _ _).use (.bool _) (.cons (.int _ _ _) (.cons (.int _ _ _) (.cons (.int _ _ _) (.nil _)))) ?_
  simp only [go_sem, ↓reduceIte, Nat.reduceEqDiff, Nat.reduceAdd, reduceCtorEq]
  refine ⟨fun h => ?_, fun h => ?_⟩
  · have h' : 1 ≤ t.length ∧ t.length ≤ 40 := by omega
    refine (p63 t (by omega) 92 [.fptr [.int .i64 t.length] 0] (up_fi _) (fun r => !rowOk t.length r) fun r hr => p92 r t.length ht (hl r hr)).use (.bool _) (.cons (.listr _ _) (.cons (Imm.fnc _ (.cons (Imm.boxi rfl) (.nil _))) (.nil _))) ?_
    simp only [go_sem, ↓reduceIte, Nat.reduceEqDiff, Nat.reduceAdd, reduceCtorEq]
    refine Kv.Fin.clean (Plain.bool _).up ⟨?_, rfl⟩
    simp [isTab, h', List.any_eq_not_all_not]
  · have h' : ¬ (1 ≤ t.length ∧ t.length ≤ 40) := by omega
    repeat' (first | refine And.intro ?_ ?_ | intro _)
    refine Kv.Fin.clean (Plain.bool _).up ⟨?_, rfl⟩
    simp [isTab, h']
end Go.Proofs.Ytpepbomifjbgnaa
