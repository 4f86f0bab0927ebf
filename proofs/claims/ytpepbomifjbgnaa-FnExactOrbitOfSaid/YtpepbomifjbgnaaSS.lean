/- Sets of points: as ascending lists, as bits. -/
import Derived.Test.YtpepbomifjbgnaaCb
import Derived.Test.YtpepbomifjbgnaaMI
import Derived.Test.YtpepbomifjbgnaaRK
namespace Go.Proofs.Ytpepbomifjbgnaa
open Go.Kv
set_option maxRecDepth 100000
/- impl.isSet -/
/- live [0, 1, 7, 8, 9, 20, 21, 22, 23, 24, 25, 26, 27, 28, 29, 30] -/
def k134_b0 : KC := (.seq (.ops [⟨(some 10), none, .bin .lss (.t 9) (.t 8)⟩])
  (.seq (.cond (.t 10) .skip (.exit 0))
  (.seq (.block 1 (.seq (.ops [⟨(some 11), none, .mv (.t 9)⟩, ⟨(some 12), none, .idxS 1 (.t 7) (.t 9)⟩, ⟨(some 13), none, .load false 1 (.t 12)⟩, ⟨(some 5), none, .mv (.t 11)⟩, ⟨(some 6), none, .mv (.t 13)⟩])
  (.seq (.ops [⟨(some 14), none, .mv (.t 6)⟩, ⟨(some 15), none, .mv (.t 1)⟩, ⟨(some 16), none, .bin .sub (.t 15) (.c (.int .i64 1))⟩, ⟨(some 17), none, .call (.c (.fn (.func 91) [] [])) [(.t 14), (.c (.int .i64 0)), (.t 16)]⟩, ⟨(some 18), none, .not (.t 17)⟩, ⟨(some 19), none, .mv (.t 18)⟩, ⟨(some 20), some (19, false), .mv (.t 5)⟩, ⟨(some 21), some (19, false), .bin .gtr (.t 20) (.c (.int .i64 0))⟩, ⟨(some 22), some (19, false), .mv (.t 21)⟩, ⟨(some 23), some (22, true), .mv (.t 0)⟩, ⟨(some 24), some (22, true), .mv (.t 5)⟩, ⟨(some 25), some (22, true), .bin .sub (.t 24) (.c (.int .i64 1))⟩, ⟨(some 26), some (22, true), .idxS 1 (.t 23) (.t 25)⟩, ⟨(some 27), some (22, true), .load false 1 (.t 26)⟩, ⟨(some 28), some (22, true), .mv (.t 6)⟩, ⟨(some 29), some (22, true), .bin .geq (.t 27) (.t 28)⟩, ⟨(some 30), some (19, false), .pick (.t 22) (.t 29) (.c (.bool false))⟩, ⟨(some 31), none, .pick (.t 19) (.c (.bool true)) (.t 30)⟩])
  (.cond (.t 31) (.seq (.ops [⟨(some 4), none, .mv (.c (.bool false))⟩])
  .ret) .skip))))
  (.ops [⟨(some 32), none, .bin .add (.t 9) (.c (.int .i64 1))⟩, ⟨(some 9), none, .mv (.t 32)⟩]))))
def k134 : KC := (.seq (.ops [⟨(some 4), none, .mv (.c (.bool false))⟩])
  (.seq (.seq (.ops [⟨(some 7), none, .mv (.t 0)⟩, ⟨(some 8), none, .len false (.t 7)⟩, ⟨(some 9), none, .mv (.c (.int .i64 0))⟩])
  (.block 0 (.loop k134_b0)))
  (.seq (.ops [⟨(some 4), none, .mv (.c (.bool true))⟩])
  .ret)))
theorem e134 {args : List PV} {σ : Heap} {K : PV → Heap → Prop} (hl : args.length ≤ 33) (h : Wf σ → (∀ a ∈ args, PV.upto σ.length a) → vc (mkCfg Try.prog mixed [] 33 σ.length) k134 (FinK σ.length [.t 4] K) (argEnv 0 args) σ) : ACall Try.prog 134 args σ K :=
  ACall_enter (C := mkCfg Try.prog mixed [] 33 σ.length) (c := Try.f134.body.getD .skip) Try.func134 (by kernel_rfl) (by kernel_rfl) (by kernel_rfl) rfl hl (by kernel_rfl) (by kernel_rfl) h
/- spec.l01Set -/
/- live [1, 2, 5, 25, 26, 27, 28, 29, 30, 31, 32, 33, 34, 35, 36, 37, 38] -/
def k133_b0 : KC := (.seq (.seq (.ops [⟨(some 9), none, .mv (.t 5)⟩, ⟨(some 10), none, .mv (.t 1)⟩, ⟨(some 11), none, .len false (.t 10)⟩, ⟨(some 12), none, .bin .lss (.t 9) (.t 11)⟩])
  (.cond (.t 12) .skip (.exit 0)))
  (.seq (.block 1 (.seq (.draw [⟨(some 15), none, .mv (.t 1)⟩, ⟨(some 16), none, .mv (.t 5)⟩, ⟨(some 17), none, .idxS 1 (.t 15) (.t 16)⟩, ⟨(some 18), none, .load false 1 (.t 17)⟩, ⟨(some 19), none, .fieldA 0 (.t 2)⟩, ⟨(some 20), none, .load false 1 (.t 19)⟩, ⟨(some 21), none, .bin .sub (.t 20) (.c (.int .i64 1))⟩, ⟨(some 22), none, .pcall (.c (.fn (.func 90) [] [])) [(.t 18), (.c (.int .i64 0)), (.t 21)]⟩, ⟨(some 23), none, .not (.t 22)⟩, ⟨(some 24), none, .mv (.t 23)⟩, ⟨(some 25), some (24, false), .mv (.t 5)⟩, ⟨(some 26), some (24, false), .bin .gtr (.t 25) (.c (.int .i64 0))⟩, ⟨(some 27), some (24, false), .mv (.t 26)⟩, ⟨(some 28), some (27, true), .mv (.t 1)⟩, ⟨(some 29), some (27, true), .mv (.t 5)⟩, ⟨(some 30), some (27, true), .idxS 1 (.t 28) (.t 29)⟩, ⟨(some 31), some (27, true), .load false 1 (.t 30)⟩, ⟨(some 32), some (27, true), .mv (.t 1)⟩, ⟨(some 33), some (27, true), .mv (.t 5)⟩, ⟨(some 34), some (27, true), .bin .sub (.t 33) (.c (.int .i64 1))⟩, ⟨(some 35), some (27, true), .idxS 1 (.t 32) (.t 34)⟩, ⟨(some 36), some (27, true), .load false 1 (.t 35)⟩, ⟨(some 37), some (27, true), .bin .leq (.t 31) (.t 36)⟩, ⟨(some 38), some (24, false), .pick (.t 27) (.t 37) (.c (.bool false))⟩, ⟨(some 39), none, .pick (.t 24) (.c (.bool true)) (.t 38)⟩])
  (.cond (.t 39) (.seq (.ops [⟨(some 4), none, .mv (.c (.int .i64 2))⟩])
  .ret) .skip)))
  (.ops [⟨(some 13), none, .mv (.t 5)⟩, ⟨(some 14), none, .bin .add (.t 13) (.c (.int .i64 1))⟩, ⟨(some 5), none, .mv (.t 14)⟩])))
def k133 : KC := (.seq (.ops [⟨(some 2), none, .box true (.t 0)⟩, ⟨(some 4), none, .mv (.c (.int .i64 0))⟩])
  (.seq (.seq (.ops [⟨(some 6), none, .load true 6 (.t 2)⟩, ⟨(some 7), none, .call (.c (.fn (.func 98) [] [])) [(.t 6)]⟩, ⟨(some 8), none, .not (.t 7)⟩])
  (.cond (.t 8) (.seq (.ops [⟨(some 4), none, .mv (.c (.int .i64 1))⟩])
  .ret) .skip))
  (.seq (.seq (.ops [⟨(some 5), none, .mv (.c (.int .i64 0))⟩])
  (.block 0 (.loop k133_b0)))
  (.seq (.ops [⟨(some 4), none, .mv (.c (.int .i64 0))⟩])
  .ret))))
theorem e133 {args : List PV} {σ : Heap} {K : PV → Heap → Prop} (hl : args.length ≤ 40) (h : Wf σ → (∀ a ∈ args, PV.upto σ.length a) → vc (mkCfg Try.prog mixed [2] 40 σ.length) k133 (FinK σ.length [.t 4] K) (argEnv 0 args) σ) : ACall Try.prog 133 args σ K :=
  ACall_enter (C := mkCfg Try.prog mixed [2] 40 σ.length) (c := Try.f133.body.getD .skip) Try.func133 (by kernel_rfl) (by kernel_rfl) (by kernel_rfl) rfl hl (by kernel_rfl) (by kernel_rfl) h
/- spec.l01Moved -/
/- live [1, 2, 5, 6] -/
def k71_b0 : KC := (.seq (.seq (.ops [⟨(some 7), none, .mv (.t 6)⟩, ⟨(some 8), none, .fieldA 0 (.t 2)⟩, ⟨(some 9), none, .load false 1 (.t 8)⟩, ⟨(some 10), none, .bin .lss (.t 7) (.t 9)⟩])
  (.cond (.t 10) .skip (.exit 0)))
  (.seq (.block 1 (.seq (.ops [⟨(some 13), none, .mv (.t 1)⟩, ⟨(some 14), none, .mv (.t 6)⟩, ⟨(some 15), none, .conv .u64 (.t 14)⟩, ⟨(some 16), none, .bin .shr (.t 13) (.t 15)⟩, ⟨(some 17), none, .bin .and (.t 16) (.c (.int .i64 1))⟩, ⟨(some 18), none, .bin .eql (.t 17) (.c (.int .i64 1))⟩])
  (.cond (.t 18) (.ops [⟨(some 19), none, .mv (.t 5)⟩, ⟨(some 20), none, .mv (.t 6)⟩, ⟨(some 21), none, .fieldA 1 (.t 2)⟩, ⟨(some 22), none, .idxA 5 1 (.t 21) (.t 20)⟩, ⟨(some 23), none, .load false 1 (.t 22)⟩, ⟨(some 24), none, .conv .u64 (.t 23)⟩, ⟨(some 25), none, .bin .shl (.c (.int .i64 1)) (.t 24)⟩, ⟨(some 26), none, .bin .or (.t 19) (.t 25)⟩, ⟨(some 5), none, .mv (.t 26)⟩]) .skip)))
  (.ops [⟨(some 11), none, .mv (.t 6)⟩, ⟨(some 12), none, .bin .add (.t 11) (.c (.int .i64 1))⟩, ⟨(some 6), none, .mv (.t 12)⟩])))
def k71 : KC := (.seq (.ops [⟨(some 2), none, .box true (.t 0)⟩, ⟨(some 4), none, .mv (.c (.int .i64 0))⟩])
  (.seq (.ops [⟨(some 5), none, .mv (.c (.int .i64 0))⟩])
  (.seq (.seq (.ops [⟨(some 6), none, .mv (.c (.int .i64 0))⟩])
  (.block 0 (.loop k71_b0)))
  (.seq (.ops [⟨(some 27), none, .mv (.t 5)⟩, ⟨(some 4), none, .mv (.t 27)⟩])
  .ret))))
theorem e71 {args : List PV} {σ : Heap} {K : PV → Heap → Prop} (hl : args.length ≤ 28) (h : Wf σ → (∀ a ∈ args, PV.upto σ.length a) → vc (mkCfg Try.prog mixed [2] 28 σ.length) k71 (FinK σ.length [.t 4] K) (argEnv 0 args) σ) : ACall Try.prog 71 args σ K :=
  ACall_enter (C := mkCfg Try.prog mixed [2] 28 σ.length) (c := Try.f71.body.getD .skip) Try.func71 (by kernel_rfl) (by kernel_rfl) (by kernel_rfl) rfl hl (by kernel_rfl) (by kernel_rfl) h
/- spec.l01Bits -/
/- live [0, 3, 4] -/
def k88_b0 : KC := (.seq (.seq (.ops [⟨(some 5), none, .mv (.t 4)⟩, ⟨(some 6), none, .mv (.t 0)⟩, ⟨(some 7), none, .len false (.t 6)⟩, ⟨(some 8), none, .bin .lss (.t 5) (.t 7)⟩])
  (.cond (.t 8) .skip (.exit 0)))
  (.seq (.block 1 (.ops [⟨(some 11), none, .mv (.t 3)⟩, ⟨(some 12), none, .mv (.t 0)⟩, ⟨(some 13), none, .mv (.t 4)⟩, ⟨(some 14), none, .idxS 1 (.t 12) (.t 13)⟩, ⟨(some 15), none, .load false 1 (.t 14)⟩, ⟨(some 16), none, .conv .u64 (.t 15)⟩, ⟨(some 17), none, .bin .shl (.c (.int .i64 1)) (.t 16)⟩, ⟨(some 18), none, .bin .or (.t 11) (.t 17)⟩, ⟨(some 3), none, .mv (.t 18)⟩]))
  (.ops [⟨(some 9), none, .mv (.t 4)⟩, ⟨(some 10), none, .bin .add (.t 9) (.c (.int .i64 1))⟩, ⟨(some 4), none, .mv (.t 10)⟩])))
def k88 : KC := (.seq (.ops [⟨(some 2), none, .mv (.c (.int .i64 0))⟩])
  (.seq (.ops [⟨(some 3), none, .mv (.c (.int .i64 0))⟩])
  (.seq (.seq (.ops [⟨(some 4), none, .mv (.c (.int .i64 0))⟩])
  (.block 0 (.loop k88_b0)))
  (.seq (.ops [⟨(some 19), none, .mv (.t 3)⟩, ⟨(some 2), none, .mv (.t 19)⟩])
  .ret))))
theorem e88 {args : List PV} {σ : Heap} {K : PV → Heap → Prop} (hl : args.length ≤ 20) (h : Wf σ → (∀ a ∈ args, PV.upto σ.length a) → vc (mkCfg Try.prog mixed [] 20 σ.length) k88 (FinK σ.length [.t 2] K) (argEnv 0 args) σ) : ACall Try.prog 88 args σ K :=
  ACall_enter (C := mkCfg Try.prog mixed [] 20 σ.length) (c := Try.f88.body.getD .skip) Try.func88 (by kernel_rfl) (by kernel_rfl) (by kernel_rfl) rfl hl (by kernel_rfl) (by kernel_rfl) h
end Go.Proofs.Ytpepbomifjbgnaa
namespace Go.Proofs.Ytpepbomifjbgnaa
open Go.Kv
set_option linter.unusedVariables false
set_option linter.unusedSimpArgs false
attribute [local irreducible] ACall PCall KL
/-- An ascending list of points below n. -/
def stp (l : List Int) (n : Int) (i : Nat) : Bool := decide (0 ≤ l.getD i 0 ∧ l.getD i 0 ≤ n - 1) && (decide (i = 0) || decide (l.getD (i - 1) 0 < l.getD i 0))
def stB (l : List Int) (n : Int) : Bool := (List.range l.length).all (stp l n)
theorem range_all_succ (p : Nat → Bool) (x : Nat) : (List.range (x + 1)).all p = ((List.range x).all p && p x) := by
  rw [List.range_succ, List.all_append]; simp
theorem range_all_false {p : Nat → Bool} {x n : Nat} (h : x < n) (hp : p x = false) : (List.range n).all p = false := by
  rw [List.all_eq_false]
  exact ⟨x, by simpa using h, by simp [hp]⟩
theorem p134 (l : List Int) (n : Int) (hl : l.length ≤ 1048576) (hn : 1 ≤ n ∧ n ≤ 5) : Pure Try.prog 134 [.list (ints l), .int .i64 n] (.bool (stB l n)) := by
  refine e134 (by simp) fun _ _ => ?_
  simp only [k134, argEnv, take6, List.drop_zero, Int.cast_ofNat_Int, go_sem, ↓reduceIte, Nat.reduceEqDiff, Nat.reduceAdd, Nat.reduceMul, Nat.reduceLeDiff, Nat.reduceLT, Int.reduceLE, Int.reduceLT, reduceCtorEq]
  refine KL_ind k134_b0.eq_1 (fun x : Nat => [(0, .list (ints l)), (1, .int .i64 n), (7, .list (ints l)), (8, .int .i64 l.length), (9, .int .i64 x)]) (fun _ => []) (fun x => x ≤ l.length ∧ (List.range x).all (stp l n) = true) (fun x => l.length - x) [0, 1, 7, 8, 9] 0 (by rfl) rfl ⟨Nat.zero_le _, rfl⟩ fun x ⟨hx, hall⟩ ih => ?_
  have hx1 : ((x : Int) - 1).toNat = x - 1 := by omega
  have hra := range_all_succ (stp l n) x
  rw [hall, Bool.true_and] at hra
  try simp only [OpK_eq, take6, List.drop_zero, Int.cast_ofNat_Int, go_sem, ↓reduceIte, Nat.reduceEqDiff, Nat.reduceAdd, Nat.reduceMul, Nat.reduceLeDiff, Nat.reduceLT, Int.reduceLE, Int.reduceLT, reduceCtorEq]
  refine ⟨fun h1 => ?_, fun h1 => ?_⟩
  · have hxl : x < l.length := by omega
    refine ⟨h1, fun _ => ⟨by omega, ?_⟩⟩
    refine (p91 _ _ _).go ?_
    have hst : stp l n x = (decide (0 ≤ l.getD x 0 ∧ l.getD x 0 ≤ n - 1) && (decide (x = 0) || decide (l.getD (x - 1) 0 < l.getD x 0))) := rfl
    generalize decide (0 ≤ l.getD x 0 ∧ l.getD x 0 ≤ n - 1) = b1 at *
    cases b1 with
    | false =>
      try simp only [OpK_eq, hx1, take6, List.drop_zero, Int.cast_ofNat_Int, go_sem, ↓reduceIte, Nat.reduceEqDiff, Nat.reduceAdd, Nat.reduceMul, Nat.reduceLeDiff, Nat.reduceLT, Int.reduceLE, Int.reduceLT, reduceCtorEq]
      exact Kv.Fin.still ⟨by rw [stB, range_all_false hxl (by rw [hst]; rfl)], rfl⟩
    | true =>
      rw [Bool.true_and] at hst
      try simp only [OpK_eq, hx1, take6, List.drop_zero, Int.cast_ofNat_Int, go_sem, ↓reduceIte, Nat.reduceEqDiff, Nat.reduceAdd, Nat.reduceMul, Nat.reduceLeDiff, Nat.reduceLT, Int.reduceLE, Int.reduceLT, reduceCtorEq]
      refine ⟨fun h2 => ⟨by omega, by omega, fun _ => ⟨fun h3 => ?_, fun h3 => ⟨by omega, ?_⟩⟩⟩, fun h2 => ⟨by omega, ?_⟩⟩
      · refine Kv.Fin.still ⟨by rw [stB, range_all_false hxl]; rw [hst, decide_eq_false (by omega : ¬ x = 0), decide_eq_false (by omega)]; rfl, rfl⟩
      · refine ih (x + 1) ⟨by omega, ?_⟩ (by omega) _ _ (by rfl) rfl
        rw [hra, hst, decide_eq_true (by omega : l.getD (x - 1) 0 < l.getD x 0), Bool.or_true]
      · refine ih (x + 1) ⟨by omega, ?_⟩ (by omega) _ _ (by rfl) rfl
        rw [hra, hst, decide_eq_true (by omega : x = 0), Bool.true_or]
  · obtain rfl : x = l.length := by omega
    exact Kv.Fin.still ⟨by rw [stB, hall], rfl⟩
theorem sb_ext {l m : List Nat} (h : ∀ x, x ∈ l ↔ x ∈ m) : sb l = sb m := by
  apply Nat.eq_of_testBit_eq
  intro i
  rw [sb_test, sb_test]
  simp only [h i]
theorem p88 (l : List Nat) (hl : ∀ x ∈ l, x < 5) (hn : l.length ≤ 1048576) : Pure Try.prog 88 [.list (ints (l.map fun x : Nat => (x : Int)))] (.int .i64 (sb l)) := by
  refine e88 (by simp) fun _ _ => ?_
  simp only [k88, argEnv, List.length_map, take6, List.drop_zero, Int.cast_ofNat_Int, go_sem, ↓reduceIte, Nat.reduceEqDiff, Nat.reduceAdd, Nat.reduceMul, Nat.reduceLeDiff, Nat.reduceLT, Int.reduceLE, Int.reduceLT, reduceCtorEq]
  refine KL_ind k88_b0.eq_1 (fun x : Nat => [(0, .list (ints (l.map fun x : Nat => (x : Int)))), (3, .int .i64 (sb (l.take x))), (4, .int .i64 x)]) (fun _ => []) (fun x => x ≤ l.length) (fun x => l.length - x) [0, 3, 4] 0 (by rfl) rfl (Nat.zero_le _) fun x hx ih => ?_
  have hb : sb (l.take x) < 2 ^ 62 := Nat.lt_trans (sb_lt (n := 5) fun y hy => hl y (List.mem_of_mem_take hy)) (by decide)
  have hp : l.getD x 0 < 5 := by
    rw [List.getD_eq_getElem?_getD]
    by_cases h : x < l.length
    · rw [List.getElem?_eq_getElem h]; exact hl _ (List.getElem_mem h)
    · rw [List.getElem?_eq_none (by omega)]; decide
  have hb2 : 2 ^ l.getD x 0 < 2 ^ 62 := Nat.pow_lt_pow_right (by omega) (by omega)
  have hp61 : l.getD x 0 ≤ 61 := by omega
  have hnat : (l.map fun x : Nat => (x : Int)).getD x 0 = (l.getD x 0 : Int) := by
    simp only [List.getD_eq_getElem?_getD, List.getElem?_map]; cases l[x]? <;> rfl
  try simp only [List.length_map, hnat, aConv_u64 hp61, aBin_shl1 hp61, aBin_or hb hb2, take6, List.drop_zero, Int.cast_ofNat_Int, go_sem, ↓reduceIte, Nat.reduceEqDiff, Nat.reduceAdd, Nat.reduceMul, Nat.reduceLeDiff, Nat.reduceLT, Int.reduceLE, Int.reduceLT, reduceCtorEq]
  refine ⟨fun h1 => ?_, fun h1 => ?_⟩
  · repeat' (first | refine And.intro ?_ ?_ | intro _)
    all_goals (try omega)
    refine ih (x + 1) (by omega) (by omega) _ _ ?_ rfl
    have hxl : x < l.length := by omega
    rw [List.take_succ_eq_append_getElem hxl, sb_snoc, List.getD_eq_getElem?_getD, List.getElem?_eq_getElem hxl]
    rfl
  · obtain rfl : x = l.length := by omega
    rw [List.take_length]
    exact Kv.Fin.still ⟨rfl, rfl⟩
/-- The points of a list that are images of points of a set, as far as point x. -/
def mvd (f : List Nat) (l : List Nat) (x : Nat) : List Nat := ((List.range x).filter fun p => decide (p ∈ l)).map fun p => f.getD p 0
theorem mvd_succ (f l : List Nat) (x : Nat) : mvd f l (x + 1) = mvd f l x ++ if x ∈ l then [f.getD x 0] else [] := by
  unfold mvd
  rw [List.range_succ, List.filter_append, List.map_append]
  congr 1
  by_cases h : x ∈ l <;> simp [h]
theorem mvd_all {f l : List Nat} {n : Nat} (hl : ∀ x ∈ l, x < n) : sb (mvd f l n) = sb (l.map fun p => f.getD p 0) := sb_ext fun y => by
  simp only [mvd, List.mem_map, List.mem_filter, List.mem_range, decide_eq_true_eq]
  exact ⟨fun ⟨p, ⟨_, h⟩, e⟩ => ⟨p, h, e⟩, fun ⟨p, h, e⟩ => ⟨p, ⟨hl p h, h⟩, e⟩⟩
theorem p71 (f : List Nat) (n : Nat) (hf : Ok f n) (l : List Nat) (hl : ∀ x ∈ l, x < n) : Pure Try.prog 71 [.agg (ints (mp f)), .int .i64 (sb l)] (.int .i64 (sb (l.map fun p => f.getD p 0))) := by
  have hlf := hf.mp_len
  have h5 := hf.le
  rw [← mvd_all hl]
  have hbl : sb l < 2 ^ 62 := Nat.lt_trans (sb_lt (n := 5) fun y hy => by have := hl y hy; omega) (by decide)
  refine e71 (by simp) fun _ _ => ?_
  simp only [k71, argEnv, hlf, take6, List.drop_zero, Int.cast_ofNat_Int, go_sem, ↓reduceIte, Nat.reduceEqDiff, Nat.reduceAdd, Nat.reduceMul, Nat.reduceLeDiff, Nat.reduceLT, Int.reduceLE, Int.reduceLT, reduceCtorEq]
  refine KL_ind k71_b0.eq_1 (fun x : Nat => [(1, .int .i64 (sb l)), (2, .fptr (ints (mp f)) 0), (5, .int .i64 (sb (mvd f l x))), (6, .int .i64 x)]) (fun _ => []) (fun x => x ≤ n) (fun x => n - x) [1, 2, 5, 6] 0 (by rfl) rfl (Nat.zero_le _) fun x hx ih => ?_
  have hp := hf.get' x
  have hb : sb (mvd f l x) < 2 ^ 62 := Nat.lt_trans (sb_lt (n := 5) fun y hy => by
    obtain ⟨p, _, rfl⟩ := List.mem_map.1 hy
    have := hf.get' p; omega) (by decide)
  have hb2 : 2 ^ f.getD x 0 < 2 ^ 62 := Nat.pow_lt_pow_right (by omega) (by omega)
  have hp61 : f.getD x 0 ≤ 61 := by omega
  have hx61 : x ≤ 61 := by omega
  have hs := mvd_succ f l x
  try simp only [OpK_eq, hlf, hf.len, aConv_u64 hp61, aConv_u64 hx61, aBin_shl1 hp61, aBin_or hb hb2, aBin_shr (show x ≤ 63 by omega), aBin_and1 (shr_le hbl), take6, List.drop_zero, Int.cast_ofNat_Int, go_sem, ↓reduceIte, Nat.reduceEqDiff, Nat.reduceAdd, Nat.reduceMul, Nat.reduceLeDiff, Nat.reduceLT, Int.reduceLE, Int.reduceLT, reduceCtorEq]
  refine ⟨fun h1 => ⟨fun h2 => ⟨by omega, by omega, fun _ => ⟨by omega, ?_⟩⟩, fun h2 => ⟨by omega, ?_⟩⟩, fun h1 => ?_⟩
  · rw [bit_one, sb_test, decide_eq_true_iff] at h2
    rw [if_pos h2] at hs
    refine ih (x + 1) (by omega) (by omega) _ _ ?_ rfl
    rw [hs, sb_snoc]; rfl
  · rw [bit_one, sb_test, decide_eq_true_iff] at h2
    rw [if_neg h2, List.append_nil] at hs
    refine ih (x + 1) (by omega) (by omega) _ _ ?_ rfl
    rw [hs]; rfl
  · obtain rfl : x = n := by omega
    exact Kv.Fin.still ⟨rfl, rfl⟩
/-- The code of a map and a set. -/
theorem p133 (f : List Nat) (n : Nat) (hf : Ok f n) (l : List Int) (hl : l.length ≤ 1048576) : Pure Try.prog 133 [.agg (ints (mp f)), .list (ints l)] (.int .i64 (if stB l n = true then 0 else 2)) := by
  have hlf := hf.mp_len
  have h5 := hf.le
  have hn1 := hf.pos
  refine e133 (by simp) fun _ _ => ?_
  simp only [k133, argEnv, hlf, take6, List.drop_zero, Int.cast_ofNat_Int, go_sem, ↓reduceIte, Nat.reduceEqDiff, Nat.reduceAdd, Nat.reduceMul, Nat.reduceLeDiff, Nat.reduceLT, Int.reduceLE, Int.reduceLT, reduceCtorEq]
  refine (p98 (mp f) hlf).go ?_
  rw [isM_mp hf]
  try simp only [hlf, hf.len, take6, List.drop_zero, Int.cast_ofNat_Int, go_sem, ↓reduceIte, Nat.reduceEqDiff, Nat.reduceAdd, Nat.reduceMul, Nat.reduceLeDiff, Nat.reduceLT, Int.reduceLE, Int.reduceLT, reduceCtorEq]
  refine KL_ind k133_b0.eq_1 (fun x : Nat => [(1, .list (ints l)), (2, .fptr (ints (mp f)) 0), (5, .int .i64 x)]) (fun _ => []) (fun x => x ≤ l.length ∧ (List.range x).all (stp l n) = true) (fun x => l.length - x) [1, 2, 5] 0 (by rfl) rfl ⟨Nat.zero_le _, rfl⟩ fun x ⟨hx, hall⟩ ih => ?_
  have hx1 : ((x : Int) - 1).toNat = x - 1 := by omega
  have hra := range_all_succ (stp l n) x
  rw [hall, Bool.true_and] at hra
  try simp only [OpK_eq, hlf, hf.len, take6, List.drop_zero, Int.cast_ofNat_Int, go_sem, ↓reduceIte, Nat.reduceEqDiff, Nat.reduceAdd, Nat.reduceMul, Nat.reduceLeDiff, Nat.reduceLT, Int.reduceLE, Int.reduceLT, reduceCtorEq]
  refine ⟨fun h1 => ?_, fun h1 => ?_⟩
  · have hxl : x < l.length := by omega
    refine ⟨h1, fun _ => ⟨by omega, ?_⟩⟩
    refine (p90 _ _ _).pgo ?_
    have hst : stp l n x = (decide (0 ≤ l.getD x 0 ∧ l.getD x 0 ≤ (n : Int) - 1) && (decide (x = 0) || decide (l.getD (x - 1) 0 < l.getD x 0))) := rfl
    generalize decide (0 ≤ l.getD x 0 ∧ l.getD x 0 ≤ (n : Int) - 1) = b1 at *
    cases b1 with
    | false =>
      try simp only [OpK_eq, hx1, take6, List.drop_zero, Int.cast_ofNat_Int, go_sem, ↓reduceIte, Nat.reduceEqDiff, Nat.reduceAdd, Nat.reduceMul, Nat.reduceLeDiff, Nat.reduceLT, Int.reduceLE, Int.reduceLT, reduceCtorEq]
      exact Kv.Fin.still ⟨by rw [stB, range_all_false hxl (by rw [hst]; rfl)]; rfl, rfl⟩
    | true =>
      rw [Bool.true_and] at hst
      try simp only [OpK_eq, hx1, take6, List.drop_zero, Int.cast_ofNat_Int, go_sem, ↓reduceIte, Nat.reduceEqDiff, Nat.reduceAdd, Nat.reduceMul, Nat.reduceLeDiff, Nat.reduceLT, Int.reduceLE, Int.reduceLT, reduceCtorEq]
      refine ⟨fun h2 => ⟨h1, fun _ => ⟨by omega, by omega, fun _ => ⟨fun h3 => ?_, fun h3 => ⟨by omega, ?_⟩⟩⟩⟩, fun h2 => ⟨by omega, ?_⟩⟩
      · refine Kv.Fin.still ⟨by rw [stB, range_all_false hxl]; rfl; rw [hst, decide_eq_false (by omega : ¬ x = 0), decide_eq_false (by omega)]; rfl, rfl⟩
      · refine ih (x + 1) ⟨by omega, ?_⟩ (by omega) _ _ (by rfl) rfl
        rw [hra, hst, decide_eq_true (by omega : l.getD (x - 1) 0 < l.getD x 0), Bool.or_true]
      · refine ih (x + 1) ⟨by omega, ?_⟩ (by omega) _ _ (by rfl) rfl
        rw [hra, hst, decide_eq_true (by omega : x = 0), Bool.true_or]
  · obtain rfl : x = l.length := by omega
    exact Kv.Fin.still ⟨by rw [stB, hall]; rfl, rfl⟩
/-! ### Ascending lists -/
theorem nodup_len : ∀ (n : Nat) (l : List Nat), l.Nodup → (∀ x ∈ l, x < n) → l.length ≤ n
  | 0, l, _, h => by
    cases l with
    | nil => simp
    | cons a l => exact absurd (h a (by simp)) (by omega)
  | n + 1, l, hn, h => by
    have h1 := nodup_len n (l.filter fun x => decide (x ≠ n)) (hn.filter _) fun x hx => by
      simp only [List.mem_filter, decide_eq_true_eq] at hx
      have := h x hx.1
      omega
    have h2 : l.length ≤ (l.filter fun x => decide (x ≠ n)).length + 1 := by
      clear h h1
      induction l with
      | nil => simp
      | cons a l ih =>
        rw [List.nodup_cons] at hn
        by_cases e : a = n
        · subst e
          have : l.filter (fun x => decide (x ≠ a)) = l := List.filter_eq_self.2 fun x hx => by
            simp only [decide_eq_true_eq]; rintro rfl; exact hn.1 hx
          rw [List.filter_cons_of_neg (by simp), this]; simp
        · rw [List.filter_cons_of_pos (by simpa using e)]
          have := ih hn.2
          simp only [List.length_cons]; omega
    omega
theorem cpt_mem : ∀ (r : List Int) (x : Int), x ∈ cpt r ↔ x ∈ r
  | [], x => by simp [cpt]
  | [a], x => by simp [cpt]
  | a :: b :: l, x => by
    have ih := cpt_mem (b :: l) x
    rw [cpt_two]
    by_cases e : a = b
    · rw [if_pos e, ih, e]; simp
    · rw [if_neg e, List.mem_cons, ih, List.mem_cons (a := x) (b := a)]
theorem cpt_asc : ∀ r : List Int, r.Pairwise (· ≤ ·) → (cpt r).Pairwise (· < ·)
  | [], _ => by simp [cpt]
  | [a], _ => by simp [cpt]
  | a :: b :: l, h => by
    rw [List.pairwise_cons] at h
    have ih := cpt_asc (b :: l) h.2
    rw [cpt_two]
    by_cases e : a = b
    · rw [if_pos e]; exact ih
    · rw [if_neg e, List.pairwise_cons]
      refine ⟨fun y hy => ?_, ih⟩
      rw [cpt_mem] at hy
      have h1 := h.1 b (by simp)
      rcases List.mem_cons.1 hy with rfl | hy
      · omega
      · have := (List.pairwise_cons.1 h.2).1 y hy
        omega
/-- A set of points, as an ascending list that is not empty. -/
def asc (n : Nat) (p : List Int) : Prop := ∃ l : List Nat, p = l.map (fun x : Nat => (x : Int)) ∧ l ≠ [] ∧ (∀ x ∈ l, x < n) ∧ l.Pairwise (· < ·)
theorem asc_len {n : Nat} {p : List Int} (h : asc n p) : 1 ≤ p.length ∧ p.length ≤ n := by
  obtain ⟨l, rfl, h0, hl, hp⟩ := h
  rw [List.length_map]
  have : l.Nodup := hp.imp fun h => by omega
  have h2 := nodup_len n l this hl
  refine ⟨?_, h2⟩
  cases l with
  | nil => exact absurd rfl h0
  | cons => simp
theorem toNat_map (l : List Nat) : (l.map fun x : Nat => (x : Int)).map Int.toNat = l := by
  rw [List.map_map]
  conv => rhs; rw [← List.map_id l]
  exact List.map_congr_left fun x _ => by simp
/-- The image of a set. -/
noncomputable def img (f : List Nat) (p : List Int) : List Int := imgs f (p.map Int.toNat)
theorem img_mem {f l : List Nat} {x : Int} : x ∈ imgs f l ↔ ∃ p ∈ l, x = (f.getD p 0 : Int) := by
  unfold imgs
  rw [cpt_mem, (srt_perm _).mem_iff, List.mem_map]
  exact ⟨fun ⟨p, h, e⟩ => ⟨p, h, e.symm⟩, fun ⟨p, h, e⟩ => ⟨p, h, e.symm⟩⟩
theorem img_asc {f : List Nat} {n : Nat} (hf : Ok f n) {p : List Int} (h : asc n p) : asc n (img f p) := by
  obtain ⟨l, rfl, h0, hl, hp⟩ := h
  unfold img
  rw [toNat_map]
  refine ⟨(imgs f l).map Int.toNat, ?_, ?_, fun x hx => ?_, ?_⟩
  · rw [List.map_map]
    conv => lhs; rw [← List.map_id (imgs f l)]
    refine List.map_congr_left fun x hx => ?_
    obtain ⟨p, _, rfl⟩ := img_mem.1 hx
    simp
  · intro h
    cases l with
    | nil => exact h0 rfl
    | cons a l =>
      have hm : ((f.getD a 0 : Nat) : Int) ∈ imgs f (a :: l) := img_mem.2 ⟨a, by simp, rfl⟩
      rw [List.map_eq_nil_iff] at h
      rw [h] at hm; cases hm
  · obtain ⟨y, hy, rfl⟩ := List.mem_map.1 hx
    obtain ⟨p, _, rfl⟩ := img_mem.1 hy
    simpa using hf.get' p
  · rw [List.pairwise_map]
    refine List.Pairwise.imp_of_mem ?_ (cpt_asc _ (srt_sorted _))
    intro a b ha hb h
    obtain ⟨p, _, rfl⟩ := img_mem.1 (show a ∈ imgs f l from ha)
    obtain ⟨q, _, rfl⟩ := img_mem.1 (show b ∈ imgs f l from hb)
    simpa using h
/-- The bits of a set, and of its image. -/
def bits (p : List Int) : Nat := sb (p.map Int.toNat)
theorem bits_img {f : List Nat} {n : Nat} {p : List Int} (h : asc n p) : bits (img f p) = sb ((p.map Int.toNat).map fun q => f.getD q 0) := by
  obtain ⟨l, rfl, _, _, _⟩ := h
  unfold bits img
  rw [toNat_map]
  refine sb_ext fun x => ?_
  simp only [List.mem_map]
  constructor
  · rintro ⟨y, hy, rfl⟩
    obtain ⟨p, hp, rfl⟩ := img_mem.1 hy
    exact ⟨p, hp, by simp⟩
  · rintro ⟨p, hp, rfl⟩
    exact ⟨_, img_mem.2 ⟨p, hp, rfl⟩, by simp⟩
theorem bits_inj {n : Nat} {p q : List Int} (hp : asc n p) (hq : asc n q) : bits p = bits q ↔ p = q := by
  refine ⟨fun h => ?_, fun h => by rw [h]⟩
  obtain ⟨l, rfl, _, _, hl⟩ := hp
  obtain ⟨m, rfl, _, _, hm⟩ := hq
  unfold bits at h
  rw [toNat_map, toNat_map] at h
  have hmem : ∀ x, x ∈ l ↔ x ∈ m := fun x => by
    have h1 := sb_test l x
    have h2 := sb_test m x
    rw [h, h2] at h1
    simpa using h1.symm
  have : l = m := by
    have hs := sorted_uniq (r := l.map fun x : Nat => (x : Int)) (s := m.map fun x : Nat => (x : Int)) (List.Perm.map _ ((List.perm_ext_iff_of_nodup (hl.imp fun h => by omega) (hm.imp fun h => by omega)).2 hmem))
      (by rw [List.pairwise_map]; exact hl.imp fun h => by omega) (by rw [List.pairwise_map]; exact hm.imp fun h => by omega)
    have := congrArg (List.map Int.toNat) hs
    rwa [toNat_map, toNat_map] at this
  rw [this]
/-- What a list that is a set is. -/
theorem stB_asc {l : List Int} {n : Nat} (h : stB l n = true) (h0 : l ≠ []) : asc n l := by
  have hall : ∀ i, i < l.length → stp l n i = true := fun i hi => by
    unfold stB at h
    exact List.all_eq_true.1 h i (by simpa using hi)
  have hb : ∀ i, (hi : i < l.length) → 0 ≤ l[i] ∧ l[i] ≤ (n : Int) - 1 ∧ (0 < i → ∀ h' : i - 1 < l.length, l[i - 1] < l[i]) := fun i hi => by
    have := hall i hi
    simp only [stp, Bool.and_eq_true, Bool.or_eq_true, decide_eq_true_eq] at this
    obtain ⟨h1, h2⟩ := this
    have e : l.getD i 0 = l[i] := by simp [List.getD_eq_getElem?_getD, hi]
    rw [e] at h1 h2
    refine ⟨h1.1, h1.2, fun hp h' => ?_⟩
    rcases h2 with h2 | h2
    · omega
    · have e2 : l.getD (i - 1) 0 = l[i - 1] := by simp [List.getD_eq_getElem?_getD, h']
      rwa [e2] at h2
  refine ⟨l.map Int.toNat, ?_, by simpa using h0, fun x hx => ?_, ?_⟩
  · rw [List.map_map]
    conv => lhs; rw [← List.map_id l]
    refine List.map_congr_left fun x hx => ?_
    obtain ⟨i, hi, rfl⟩ := List.getElem_of_mem hx
    have := hb i hi
    simp only [id_eq, Function.comp_def]; omega
  · obtain ⟨y, hy, rfl⟩ := List.mem_map.1 hx
    obtain ⟨i, hi, rfl⟩ := List.getElem_of_mem hy
    have := hb i hi
    omega
  · rw [List.pairwise_map]
    have key : ∀ d i, (hi : i + 1 + d < l.length) → l[i]'(by omega) < l[i + 1 + d] := fun d => by
      induction d with
      | zero =>
        intro i hi
        have := (hb (i + 1) hi).2.2 (by omega) (by omega)
        simpa using this
      | succ d ih =>
        intro i hi
        have h1 := ih i (by omega)
        have h2 := (hb (i + 1 + (d + 1)) hi).2.2 (by omega) (by omega)
        have e : i + 1 + (d + 1) - 1 = i + 1 + d := by omega
        simp only [e] at h2
        omega
    rw [List.pairwise_iff_getElem]
    intro i j hi hj hij
    have h1 := key (j - i - 1) i (by omega)
    have e : i + 1 + (j - i - 1) = j := by omega
    simp only [e] at h1
    have := (hb i hi).1
    omega
end Go.Proofs.Ytpepbomifjbgnaa
