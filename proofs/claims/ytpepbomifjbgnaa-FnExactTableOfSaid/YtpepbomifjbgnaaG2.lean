/- Several texts of this session as one. -/
import Derived.Test.YtpepbomifjbgnaaCb
import Derived.Test.YtpepbomifjbgnaaG1
section
/- Maps, compared by the laws' functions. -/
namespace Go.Proofs.Ytpepbomifjbgnaa
open Go.Kv
set_option maxRecDepth 100000
/- laws.eqMap -/
def k56 : KC := (.seq (.ops [⟨(some 2), none, .box true (.t 0)⟩, ⟨(some 3), none, .box true (.t 1)⟩, ⟨(some 4), none, .mv (.c (.bool false))⟩])
  (.seq (.seq (.ops [⟨(some 5), none, .fieldA 0 (.t 2)⟩, ⟨(some 6), none, .load false 1 (.t 5)⟩, ⟨(some 7), none, .fieldA 0 (.t 3)⟩, ⟨(some 8), none, .load false 1 (.t 7)⟩, ⟨(some 9), none, .bin .neq (.t 6) (.t 8)⟩])
  (.cond (.t 9) (.seq (.ops [⟨(some 4), none, .mv (.c (.bool false))⟩])
  .ret) .skip))
  (.seq (.seq (.ops [⟨(some 10), none, .fieldA 1 (.t 2)⟩, ⟨(some 11), none, .load true 5 (.t 10)⟩, ⟨(some 12), none, .fieldA 1 (.t 3)⟩, ⟨(some 13), none, .load true 5 (.t 12)⟩, ⟨(some 14), none, .call (.c (.fn (.func 105) [] [])) [(.t 11), (.t 13)]⟩, ⟨(some 15), none, .not (.t 14)⟩])
  (.cond (.t 15) (.seq (.ops [⟨(some 4), none, .mv (.c (.bool false))⟩])
  .ret) .skip))
  (.seq (.ops [⟨(some 4), none, .mv (.c (.bool true))⟩])
  .ret))))
theorem e56 {args : List PV} {σ : Heap} {K : PV → Heap → Prop} (hl : args.length ≤ 16) (h : Wf σ → (∀ a ∈ args, PV.upto σ.length a) → vc (mkCfg Try.prog mixed [2, 3] 16 σ.length) k56 (FinK σ.length [.t 4] K) (argEnv 0 args) σ) : ACall Try.prog 56 args σ K :=
  ACall_enter (C := mkCfg Try.prog mixed [2, 3] 16 σ.length) (c := Try.f56.body.getD .skip) Try.func56 (by kernel_rfl) (by kernel_rfl) (by kernel_rfl) rfl hl (by kernel_rfl) (by kernel_rfl) h
/- laws.eqInt64A5 -/
/- live [2, 3, 5] -/
def k105_b0 : KC := (.seq (.seq (.ops [⟨(some 6), none, .mv (.t 5)⟩, ⟨(some 7), none, .bin .lss (.t 6) (.c (.int .i64 5))⟩])
  (.cond (.t 7) .skip (.exit 0)))
  (.seq (.block 1 (.seq (.draw [⟨(some 10), none, .mv (.t 5)⟩, ⟨(some 11), none, .idxA 5 1 (.t 2) (.t 10)⟩, ⟨(some 12), none, .load false 1 (.t 11)⟩, ⟨(some 13), none, .mv (.t 5)⟩, ⟨(some 14), none, .idxA 5 1 (.t 3) (.t 13)⟩, ⟨(some 15), none, .load false 1 (.t 14)⟩, ⟨(some 16), none, .bin .neq (.t 12) (.t 15)⟩])
  (.cond (.t 16) (.seq (.ops [⟨(some 4), none, .mv (.c (.bool false))⟩])
  .ret) .skip)))
  (.ops [⟨(some 8), none, .mv (.t 5)⟩, ⟨(some 9), none, .bin .add (.t 8) (.c (.int .i64 1))⟩, ⟨(some 5), none, .mv (.t 9)⟩])))
def k105 : KC := (.seq (.ops [⟨(some 2), none, .box true (.t 0)⟩, ⟨(some 3), none, .box true (.t 1)⟩, ⟨(some 4), none, .mv (.c (.bool false))⟩])
  (.seq (.seq (.ops [⟨(some 5), none, .mv (.c (.int .i64 0))⟩])
  (.block 0 (.loop k105_b0)))
  (.seq (.ops [⟨(some 4), none, .mv (.c (.bool true))⟩])
  .ret)))
theorem e105 {args : List PV} {σ : Heap} {K : PV → Heap → Prop} (hl : args.length ≤ 17) (h : Wf σ → (∀ a ∈ args, PV.upto σ.length a) → vc (mkCfg Try.prog mixed [2, 3] 17 σ.length) k105 (FinK σ.length [.t 4] K) (argEnv 0 args) σ) : ACall Try.prog 105 args σ K :=
  ACall_enter (C := mkCfg Try.prog mixed [2, 3] 17 σ.length) (c := Try.f105.body.getD .skip) Try.func105 (by kernel_rfl) (by kernel_rfl) (by kernel_rfl) rfl hl (by kernel_rfl) (by kernel_rfl) h
end Go.Proofs.Ytpepbomifjbgnaa
namespace Go.Proofs.Ytpepbomifjbgnaa
open Go.Kv
set_option linter.unusedVariables false
set_option linter.unusedSimpArgs false
attribute [local irreducible] ACall PCall KL
theorem p105 (a b : List Int) (ha : a.length = 5) (hb : b.length = 5) : Pure Try.prog 105 [.agg (ints a), .agg (ints b)] (.bool (decide (a = b))) := by
  refine e105 (by simp) fun _ _ => ?_
  simp only [k105, argEnv, ha, hb, take6, List.drop_zero, Int.cast_ofNat_Int, go_sem, ↓reduceIte, Nat.reduceEqDiff, Nat.reduceAdd, Nat.reduceMul, Nat.reduceLeDiff, Nat.reduceLT, Int.reduceLE, Int.reduceLT, reduceCtorEq]
  refine KL_ind k105_b0.eq_1 (fun x : Nat => [(2, .fptr (ints a) 0), (3, .fptr (ints b) 0), (5, .int .i64 x)]) (fun _ => []) (fun x => x ≤ 5 ∧ a.take x = b.take x) (fun x => 5 - x) [2, 3, 5] 0 (by rfl) rfl ⟨Nat.zero_le _, rfl⟩ fun x ⟨hx, ht⟩ ih => ?_
  try simp only [ha, hb, take6, List.drop_zero, Int.cast_ofNat_Int, go_sem, ↓reduceIte, Nat.reduceEqDiff, Nat.reduceAdd, Nat.reduceMul, Nat.reduceLeDiff, Nat.reduceLT, Int.reduceLE, Int.reduceLT, reduceCtorEq]
  refine ⟨fun h1 => ⟨by omega, by omega, fun h2 => ⟨by omega, by omega, fun h3 => ⟨fun h4 => ?_, fun h4 => ⟨by omega, ?_⟩⟩⟩⟩, fun h1 => ?_⟩
  · have : a ≠ b := fun e => h4 (by rw [e])
    exact Kv.Fin.now ⟨by rw [decide_eq_false this], rfl⟩
  · exact ih (x + 1) ⟨by omega, take_succ_eq ht (by omega) (by omega) h4⟩ (by omega) _ _ (by rfl) rfl
  · obtain rfl : x = 5 := by omega
    rw [List.take_of_length_le (by omega), List.take_of_length_le (by omega)] at ht
    exact Kv.Fin.now ⟨by rw [decide_eq_true ht], rfl⟩
theorem eq_of_drop {a b : List Int} (ha : a.length = 6) (hb : b.length = 6) : (a = b) ↔ (a.getD 0 0 = b.getD 0 0 ∧ (a.drop 1).take 5 = (b.drop 1).take 5) := by
  obtain ⟨x, a, rfl⟩ : ∃ x l, a = x :: l := by
    match a, ha with
    | x :: l, _ => exact ⟨x, l, rfl⟩
  obtain ⟨y, b, rfl⟩ : ∃ x l, b = x :: l := by
    match b, hb with
    | x :: l, _ => exact ⟨x, l, rfl⟩
  simp only [List.length_cons] at ha hb
  simp only [List.drop_succ_cons, List.drop_zero, List.getD_cons_zero, List.cons.injEq]
  rw [List.take_of_length_le (by omega), List.take_of_length_le (by omega)]
theorem p56 (a b : List Int) (ha : a.length = 6) (hb : b.length = 6) : Pure Try.prog 56 [.agg (ints a), .agg (ints b)] (.bool (decide (a = b))) := by
  have hd : decide (a = b) = (decide (a.getD 0 0 = b.getD 0 0) && decide ((a.drop 1).take 5 = (b.drop 1).take 5)) := by
    rw [decide_eq_decide.2 (eq_of_drop ha hb), Bool.decide_and]
  have ha5 : ((a.drop 1).take 5).length = 5 := by simp [ha]
  have hb5 : ((b.drop 1).take 5).length = 5 := by simp [hb]
  rw [hd]
  refine e56 (by simp) fun _ _ => ?_
  simp only [k56, argEnv, ha, hb, take6, List.drop_zero, Int.cast_ofNat_Int, go_sem, ↓reduceIte, Nat.reduceEqDiff, Nat.reduceAdd, Nat.reduceMul, Nat.reduceLeDiff, Nat.reduceLT, Int.reduceLE, Int.reduceLT, reduceCtorEq]
  refine ⟨fun h => ?_, fun h => ?_⟩
  · exact Kv.Fin.now ⟨by rw [decide_eq_false h]; rfl, rfl⟩
  · refine (p105 _ _ ha5 hb5).go ?_
    rw [decide_eq_true h]
    cases decide ((a.drop 1).take 5 = (b.drop 1).take 5)
    · try simp only [take6, List.drop_zero, Int.cast_ofNat_Int, go_sem, ↓reduceIte, Nat.reduceEqDiff, Nat.reduceAdd, Nat.reduceMul, Nat.reduceLeDiff, Nat.reduceLT, Int.reduceLE, Int.reduceLT, reduceCtorEq]
      exact Kv.Fin.now ⟨rfl, rfl⟩
    · try simp only [take6, List.drop_zero, Int.cast_ofNat_Int, go_sem, ↓reduceIte, Nat.reduceEqDiff, Nat.reduceAdd, Nat.reduceMul, Nat.reduceLeDiff, Nat.reduceLT, Int.reduceLE, Int.reduceLT, reduceCtorEq]
      exact Kv.Fin.now ⟨rfl, rfl⟩
end Go.Proofs.Ytpepbomifjbgnaa
end
section
/- Searching in lists of maps, and deleting from them. -/
namespace Go.Proofs.Ytpepbomifjbgnaa
open Go.Kv
set_option maxRecDepth 100000
/- slices.IndexFunc[[]impl.Map,impl.Map] -/
/- live [0, 1, 7, 8] -/
def k124_b0 : KC := (.seq (.ops [⟨(some 9), none, .bin .lss (.t 8) (.t 7)⟩])
  (.seq (.cond (.t 9) .skip (.exit 0))
  (.seq (.block 1 (.seq (.ops [⟨(some 10), none, .mv (.t 8)⟩, ⟨(some 5), none, .mv (.t 10)⟩])
  (.seq (.ops [⟨(some 11), none, .mv (.t 1)⟩, ⟨(some 12), none, .mv (.t 0)⟩, ⟨(some 13), none, .mv (.t 5)⟩, ⟨(some 14), none, .idxS 6 (.t 12) (.t 13)⟩, ⟨(some 15), none, .load true 6 (.t 14)⟩, ⟨(some 16), none, .call (.t 11) [(.t 15)]⟩])
  (.cond (.t 16) (.seq (.ops [⟨(some 17), none, .mv (.t 5)⟩, ⟨(some 4), none, .mv (.t 17)⟩])
  .ret) .skip))))
  (.ops [⟨(some 18), none, .bin .add (.t 8) (.c (.int .i64 1))⟩, ⟨(some 8), none, .mv (.t 18)⟩]))))
def k124 : KC := (.seq (.ops [⟨(some 4), none, .mv (.c (.int .i64 0))⟩])
  (.seq (.seq (.ops [⟨(some 6), none, .mv (.t 0)⟩, ⟨(some 7), none, .len false (.t 6)⟩, ⟨(some 8), none, .mv (.c (.int .i64 0))⟩])
  (.block 0 (.loop k124_b0)))
  (.seq (.ops [⟨(some 4), none, .mv (.c (.int .i64 (-1)))⟩])
  .ret)))
theorem e124 {args : List PV} {σ : Heap} {K : PV → Heap → Prop} (hl : args.length ≤ 19) (h : Wf σ → (∀ a ∈ args, PV.upto σ.length a) → vc (mkCfg Try.prog mixed [] 19 σ.length) k124 (FinK σ.length [.t 4] K) (argEnv 0 args) σ) : ACall Try.prog 124 args σ K :=
  ACall_enter (C := mkCfg Try.prog mixed [] 19 σ.length) (c := Try.f124.body.getD .skip) Try.func124 (by kernel_rfl) (by kernel_rfl) (by kernel_rfl) rfl hl (by kernel_rfl) (by kernel_rfl) h
end Go.Proofs.Ytpepbomifjbgnaa
namespace Go.Proofs.Ytpepbomifjbgnaa
open Go.Kv
set_option linter.unusedVariables false
set_option linter.unusedSimpArgs false
attribute [local irreducible] ACall PCall KL
theorem p124 (l : List (List Int)) (hm : ∀ x ∈ l, x.length = 6) (hl : l.length ≤ 4294967296) (fid : FuncId) (caps : List PV) [hc : StillL caps] (p : List Int → Bool) (hp : ∀ x ∈ l, Pure Try.prog fid (.agg (ints x) :: caps) (.bool (p x))) :
    Pure Try.prog 124 [.list (aggs l), .fn (.func fid) [] caps] (.int .i64 (idx p l)) := by
  refine e124 (by simp) fun _ _ => ?_
  simp only [k124, argEnv, take6, List.drop_zero, Int.cast_ofNat_Int, go_sem, ↓reduceIte, Nat.reduceEqDiff, Nat.reduceAdd, Nat.reduceMul, Nat.reduceLeDiff, Nat.reduceLT, Int.reduceLE, Int.reduceLT, reduceCtorEq]
  refine KL_ind k124_b0.eq_1 (fun x : Nat => [(0, .list (aggs l)), (1, .fn (.func fid) [] caps), (7, .int .i64 l.length), (8, .int .i64 x)]) (fun _ => []) (fun x => x ≤ l.length ∧ (l.take x).any p = false) (fun x => l.length - x) [0, 1, 7, 8] 0 rfl rfl ⟨Nat.zero_le _, by simp⟩ fun x ⟨hx, hall⟩ ih => ?_
  try simp only [take6, List.drop_zero, Int.cast_ofNat_Int, go_sem, ↓reduceIte, Nat.reduceEqDiff, Nat.reduceAdd, Nat.reduceMul, Nat.reduceLeDiff, Nat.reduceLT, Int.reduceLE, Int.reduceLT, reduceCtorEq]
  refine ⟨fun h1 => ⟨by omega, fun h2 => ?_⟩, fun h1 => ?_⟩
  · rw [getD_eq h2]
    have h6 := hm _ (List.getElem_mem h2)
    try simp only [h6, take6, List.drop_zero, Int.cast_ofNat_Int, go_sem, ↓reduceIte, Nat.reduceEqDiff, Nat.reduceAdd, Nat.reduceMul, Nat.reduceLeDiff, Nat.reduceLT, Int.reduceLE, Int.reduceLT, reduceCtorEq]
    refine (hp _ (List.getElem_mem h2)).go ?_
    try simp only [take6, List.drop_zero, Int.cast_ofNat_Int, go_sem, ↓reduceIte, Nat.reduceEqDiff, Nat.reduceAdd, Nat.reduceMul, Nat.reduceLeDiff, Nat.reduceLT, Int.reduceLE, Int.reduceLT, reduceCtorEq]
    refine ⟨fun h3 => ?_, fun h3 => ⟨by omega, ?_⟩⟩
    · exact Kv.Fin.now ⟨by rw [idx_some h2 hall h3], rfl⟩
    · refine ih (x + 1) ⟨by omega, ?_⟩ (by omega) _ _ rfl rfl
      rw [any_take_succ _ h2, hall, h3]; rfl
  · obtain rfl : x = l.length := by omega
    rw [List.take_length] at hall
    exact Kv.Fin.now ⟨by rw [idx_none hall], rfl⟩
end Go.Proofs.Ytpepbomifjbgnaa
end
section
/- Lists of maps: their size, their copies, their equality; the lists that are joined. -/
namespace Go.Proofs.Ytpepbomifjbgnaa
open Go.Kv
set_option maxRecDepth 100000
/- laws.szMapS -/
def k19 : KC := (.seq (.ops [⟨(some 4), none, .mv (.c (.int .i64 0))⟩])
  (.seq (.ops [⟨(some 5), none, .mv (.t 1)⟩, ⟨(some 6), none, .mv (.t 0)⟩, ⟨(some 7), none, .len false (.t 6)⟩, ⟨(some 8), none, .bin .sub (.t 5) (.t 7)⟩, ⟨(some 1), none, .mv (.t 8)⟩])
  (.seq (.seq (.ops [⟨(some 9), none, .mv (.t 1)⟩, ⟨(some 10), none, .bin .lss (.t 9) (.c (.int .i64 0))⟩])
  (.cond (.t 10) (.seq (.ops [⟨(some 4), none, .mv (.c (.int .i64 (-1)))⟩])
  .ret) .skip))
  (.seq (.ops [⟨(some 11), none, .mv (.t 1)⟩, ⟨(some 4), none, .mv (.t 11)⟩])
  .ret))))
theorem e19 {args : List PV} {σ : Heap} {K : PV → Heap → Prop} (hl : args.length ≤ 12) (h : Wf σ → (∀ a ∈ args, PV.upto σ.length a) → vc (mkCfg Try.prog mixed [] 12 σ.length) k19 (FinK σ.length [.t 4] K) (argEnv 0 args) σ) : ACall Try.prog 19 args σ K :=
  ACall_enter (C := mkCfg Try.prog mixed [] 12 σ.length) (c := Try.f19.body.getD .skip) Try.func19 (by kernel_rfl) (by kernel_rfl) (by kernel_rfl) rfl hl (by kernel_rfl) (by kernel_rfl) h
/- laws.toMapS -/
/- live [0, 3, 4] -/
def k21_b0 : KC := (.seq (.seq (.ops [⟨(some 8), none, .mv (.t 4)⟩, ⟨(some 9), none, .mv (.t 0)⟩, ⟨(some 10), none, .len false (.t 9)⟩, ⟨(some 11), none, .bin .lss (.t 8) (.t 10)⟩])
  (.cond (.t 11) .skip (.exit 0)))
  (.seq (.block 1 (.ops [⟨(some 14), none, .mv (.t 3)⟩, ⟨(some 15), none, .mv (.t 4)⟩, ⟨(some 16), none, .mv (.t 0)⟩, ⟨(some 17), none, .mv (.t 4)⟩, ⟨(some 18), none, .idxS 6 (.t 16) (.t 17)⟩, ⟨(some 19), none, .load true 6 (.t 18)⟩, ⟨(some 20), none, .call (.c (.fn (.func 53) [] [])) [(.t 19)]⟩, ⟨(some 21), none, .idxS 6 (.t 14) (.t 15)⟩, ⟨none, none, .store 6 (.t 21) (.t 20)⟩]))
  (.ops [⟨(some 12), none, .mv (.t 4)⟩, ⟨(some 13), none, .bin .add (.t 12) (.c (.int .i64 1))⟩, ⟨(some 4), none, .mv (.t 13)⟩])))
def k21 : KC := (.seq (.ops [⟨(some 2), none, .mv (.c (.nils))⟩])
  (.seq (.ops [⟨(some 5), none, .mv (.t 0)⟩, ⟨(some 6), none, .len false (.t 5)⟩, ⟨(some 7), none, .mks 59 6 (.agg [.int .i64 0, .int .i64 0, .int .i64 0, .int .i64 0, .int .i64 0, .int .i64 0]) (.t 6) (.t 6)⟩, ⟨(some 3), none, .mv (.t 7)⟩])
  (.seq (.seq (.ops [⟨(some 4), none, .mv (.c (.int .i64 0))⟩])
  (.block 0 (.loop k21_b0)))
  (.seq (.ops [⟨(some 22), none, .mv (.t 3)⟩, ⟨(some 2), none, .mv (.t 22)⟩])
  .ret))))
theorem e21 {args : List PV} {σ : Heap} {K : PV → Heap → Prop} (hl : args.length ≤ 23) (h : Wf σ → (∀ a ∈ args, PV.upto σ.length a) → vc (mkCfg Try.prog mixed [] 23 σ.length) k21 (FinK σ.length [.t 2] K) (argEnv 0 args) σ) : ACall Try.prog 21 args σ K :=
  ACall_enter (C := mkCfg Try.prog mixed [] 23 σ.length) (c := Try.f21.body.getD .skip) Try.func21 (by kernel_rfl) (by kernel_rfl) (by kernel_rfl) rfl hl (by kernel_rfl) (by kernel_rfl) h
/- laws.eqMapS -/
/- live [0, 1, 5] -/
def k23_b0 : KC := (.seq (.seq (.ops [⟨(some 11), none, .mv (.t 5)⟩, ⟨(some 12), none, .mv (.t 0)⟩, ⟨(some 13), none, .len false (.t 12)⟩, ⟨(some 14), none, .bin .lss (.t 11) (.t 13)⟩])
  (.cond (.t 14) .skip (.exit 0)))
  (.seq (.block 1 (.seq (.draw [⟨(some 17), none, .mv (.t 0)⟩, ⟨(some 18), none, .mv (.t 5)⟩, ⟨(some 19), none, .idxS 6 (.t 17) (.t 18)⟩, ⟨(some 20), none, .load true 6 (.t 19)⟩, ⟨(some 21), none, .mv (.t 1)⟩, ⟨(some 22), none, .mv (.t 5)⟩, ⟨(some 23), none, .idxS 6 (.t 21) (.t 22)⟩, ⟨(some 24), none, .load true 6 (.t 23)⟩, ⟨(some 25), none, .pcall (.c (.fn (.func 56) [] [])) [(.t 20), (.t 24)]⟩, ⟨(some 26), none, .not (.t 25)⟩])
  (.cond (.t 26) (.seq (.ops [⟨(some 4), none, .mv (.c (.bool false))⟩])
  .ret) .skip)))
  (.ops [⟨(some 15), none, .mv (.t 5)⟩, ⟨(some 16), none, .bin .add (.t 15) (.c (.int .i64 1))⟩, ⟨(some 5), none, .mv (.t 16)⟩])))
def k23 : KC := (.seq (.ops [⟨(some 4), none, .mv (.c (.bool false))⟩])
  (.seq (.seq (.ops [⟨(some 6), none, .mv (.t 0)⟩, ⟨(some 7), none, .len false (.t 6)⟩, ⟨(some 8), none, .mv (.t 1)⟩, ⟨(some 9), none, .len false (.t 8)⟩, ⟨(some 10), none, .bin .neq (.t 7) (.t 9)⟩])
  (.cond (.t 10) (.seq (.ops [⟨(some 4), none, .mv (.c (.bool false))⟩])
  .ret) .skip))
  (.seq (.seq (.ops [⟨(some 5), none, .mv (.c (.int .i64 0))⟩])
  (.block 0 (.loop k23_b0)))
  (.seq (.ops [⟨(some 4), none, .mv (.c (.bool true))⟩])
  .ret))))
theorem e23 {args : List PV} {σ : Heap} {K : PV → Heap → Prop} (hl : args.length ≤ 27) (h : Wf σ → (∀ a ∈ args, PV.upto σ.length a) → vc (mkCfg Try.prog mixed [] 27 σ.length) k23 (FinK σ.length [.t 4] K) (argEnv 0 args) σ) : ACall Try.prog 23 args σ K :=
  ACall_enter (C := mkCfg Try.prog mixed [] 27 σ.length) (c := Try.f23.body.getD .skip) Try.func23 (by kernel_rfl) (by kernel_rfl) (by kernel_rfl) rfl hl (by kernel_rfl) (by kernel_rfl) h
/- slices.Grow[[]impl.Map,impl.Map] -/
def k137 : KC := (.seq (.ops [⟨(some 4), none, .mv (.c (.nils))⟩])
  (.seq (.seq (.ops [⟨(some 5), none, .mv (.t 1)⟩, ⟨(some 6), none, .bin .lss (.t 5) (.c (.int .i64 0))⟩])
  (.cond (.t 6) (.ops [⟨(some 7), none, .bad⟩, ⟨none, none, .bad⟩]) .skip))
  (.seq (.seq (.ops [⟨(some 8), none, .mv (.t 1)⟩, ⟨(some 9), none, .mv (.t 0)⟩, ⟨(some 10), none, .cap0 (.t 9)⟩, ⟨(some 11), none, .mv (.t 0)⟩, ⟨(some 12), none, .len false (.t 11)⟩, ⟨(some 13), none, .bin .sub (.t 10) (.t 12)⟩, ⟨(some 14), none, .bin .sub (.t 8) (.t 13)⟩, ⟨(some 1), none, .mv (.t 14)⟩])
  (.seq (.ops [⟨(some 15), none, .mv (.t 1)⟩, ⟨(some 16), none, .bin .gtr (.t 15) (.c (.int .i64 0))⟩])
  (.cond (.t 16) (.ops [⟨(some 17), none, .mv (.t 0)⟩, ⟨(some 18), none, .mv (.t 0)⟩, ⟨(some 19), none, .cap0 (.t 18)⟩, ⟨(some 20), none, .sls 6 (.t 17) none (some (.t 19))⟩, ⟨(some 21), none, .mv (.t 1)⟩, ⟨(some 22), none, .apn (.t 20) (.t 21) 59 6 (.agg [.int .i64 0, .int .i64 0, .int .i64 0, .int .i64 0, .int .i64 0, .int .i64 0])⟩, ⟨(some 23), none, .mv (.t 0)⟩, ⟨(some 24), none, .len false (.t 23)⟩, ⟨(some 25), none, .sls 6 (.t 22) none (some (.t 24))⟩, ⟨(some 0), none, .mv (.t 25)⟩]) .skip)))
  (.seq (.ops [⟨(some 26), none, .mv (.t 0)⟩, ⟨(some 4), none, .mv (.t 26)⟩])
  .ret))))
theorem e137 {args : List PV} {σ : Heap} {K : PV → Heap → Prop} (hl : args.length ≤ 27) (h : Wf σ → (∀ a ∈ args, PV.upto σ.length a) → vc (mkCfg Try.prog mixed [] 27 σ.length) k137 (FinK σ.length [.t 4] K) (argEnv 0 args) σ) : ACall Try.prog 137 args σ K :=
  ACall_enter (C := mkCfg Try.prog mixed [] 27 σ.length) (c := Try.f137.body.getD .skip) Try.func137 (by kernel_rfl) (by kernel_rfl) (by kernel_rfl) rfl hl (by kernel_rfl) (by kernel_rfl) h
/- slices.Concat[[]impl.Map,impl.Map] -/
/- live [0, 3, 9, 10, 11] -/
def k101_b0 : KC := (.seq (.ops [⟨(some 12), none, .bin .lss (.t 11) (.t 10)⟩])
  (.seq (.cond (.t 12) .skip (.exit 0))
  (.seq (.block 1 (.seq (.ops [⟨(some 13), none, .idxS 1 (.t 9) (.t 11)⟩, ⟨(some 14), none, .load false 1 (.t 13)⟩, ⟨(some 5), none, .mv (.t 14)⟩])
  (.seq (.ops [⟨(some 15), none, .mv (.t 3)⟩, ⟨(some 16), none, .mv (.t 5)⟩, ⟨(some 17), none, .len false (.t 16)⟩, ⟨(some 18), none, .bin .add (.t 15) (.t 17)⟩, ⟨(some 3), none, .mv (.t 18)⟩])
  (.seq (.ops [⟨(some 19), none, .mv (.t 3)⟩, ⟨(some 20), none, .bin .lss (.t 19) (.c (.int .i64 0))⟩])
  (.cond (.t 20) (.ops [⟨(some 21), none, .bad⟩, ⟨none, none, .bad⟩]) .skip)))))
  (.ops [⟨(some 22), none, .bin .add (.t 11) (.c (.int .i64 1))⟩, ⟨(some 11), none, .mv (.t 22)⟩]))))
/- live [6, 25, 26, 27] -/
def k101_b1 : KC := (.seq (.ops [⟨(some 28), none, .bin .lss (.t 27) (.t 26)⟩])
  (.seq (.cond (.t 28) .skip (.exit 2))
  (.seq (.block 3 (.seq (.ops [⟨(some 29), none, .idxS 1 (.t 25) (.t 27)⟩, ⟨(some 30), none, .load false 1 (.t 29)⟩, ⟨(some 8), none, .mv (.t 30)⟩])
  (.ops [⟨(some 31), none, .mv (.t 6)⟩, ⟨(some 32), none, .mv (.t 8)⟩, ⟨(some 33), none, .app (.t 31) (.t 32) 59 6⟩, ⟨(some 6), none, .mv (.t 33)⟩])))
  (.ops [⟨(some 34), none, .bin .add (.t 27) (.c (.int .i64 1))⟩, ⟨(some 27), none, .mv (.t 34)⟩]))))
def k101 : KC := (.seq (.ops [⟨(some 2), none, .mv (.c (.nils))⟩])
  (.seq (.ops [⟨(some 3), none, .mv (.c (.int .i64 0))⟩])
  (.seq (.seq (.ops [⟨(some 9), none, .mv (.t 0)⟩, ⟨(some 10), none, .len false (.t 9)⟩, ⟨(some 11), none, .mv (.c (.int .i64 0))⟩])
  (.block 0 (.loop k101_b0)))
  (.seq (.ops [⟨(some 23), none, .mv (.t 3)⟩, ⟨(some 24), none, .call (.c (.fn (.func 137) [] [])) [(.c (.nils)), (.t 23)]⟩, ⟨(some 6), none, .mv (.t 24)⟩])
  (.seq (.seq (.ops [⟨(some 25), none, .mv (.t 0)⟩, ⟨(some 26), none, .len false (.t 25)⟩, ⟨(some 27), none, .mv (.c (.int .i64 0))⟩])
  (.block 2 (.loop k101_b1)))
  (.seq (.ops [⟨(some 35), none, .mv (.t 6)⟩, ⟨(some 2), none, .mv (.t 35)⟩])
  .ret))))))
theorem e101 {args : List PV} {σ : Heap} {K : PV → Heap → Prop} (hl : args.length ≤ 36) (h : Wf σ → (∀ a ∈ args, PV.upto σ.length a) → vc (mkCfg Try.prog mixed [] 36 σ.length) k101 (FinK σ.length [.t 2] K) (argEnv 0 args) σ) : ACall Try.prog 101 args σ K :=
  ACall_enter (C := mkCfg Try.prog mixed [] 36 σ.length) (c := Try.f101.body.getD .skip) Try.func101 (by kernel_rfl) (by kernel_rfl) (by kernel_rfl) rfl hl (by kernel_rfl) (by kernel_rfl) h
end Go.Proofs.Ytpepbomifjbgnaa
namespace Go.Proofs.Ytpepbomifjbgnaa
open Go.Kv
set_option linter.unusedVariables false
set_option linter.unusedSimpArgs false
attribute [local irreducible] ACall PCall KL
theorem p19 (l : List (List Int)) (k : Int) (hl : l.length ≤ 9223372036854775807) (hk : 0 ≤ k ∧ k ≤ 4294967296) : Pure Try.prog 19 [.list (aggs l), .int .i64 k] (.int .i64 (if k - l.length < 0 then -1 else k - l.length)) := by
  refine e19 (by simp) fun _ _ => ?_
  simp only [k19, argEnv, take6, List.drop_zero, Int.cast_ofNat_Int, go_sem, ↓reduceIte, Nat.reduceEqDiff, Nat.reduceAdd, Nat.reduceMul, Nat.reduceLeDiff, Nat.reduceLT, Int.reduceLE, Int.reduceLT, reduceCtorEq]
  repeat' (first | refine And.intro ?_ ?_ | intro _)
  all_goals (try omega)
  · rename_i h
    exact Kv.Fin.now ⟨by rw [if_pos h], rfl⟩
  · rename_i h
    exact Kv.Fin.now ⟨by rw [if_neg h], rfl⟩
theorem aggs_repl (n : Nat) : List.replicate n (PV.agg [.int .i64 0, .int .i64 0, .int .i64 0, .int .i64 0, .int .i64 0, .int .i64 0]) = aggs (List.replicate n [0, 0, 0, 0, 0, 0]) := by simp [aggs, ints]
theorem copyA_step {l : List (List Int)} {x : Nat} (z : List Int) (h : x < l.length) : (l.take x ++ List.replicate (l.length - x) z).set x (l.getD x []) = l.take (x + 1) ++ List.replicate (l.length - (x + 1)) z := by
  have e : l.length - x = (l.length - (x + 1)) + 1 := by omega
  rw [e, List.replicate_succ, List.set_append_right _ _ (by simp; omega), List.length_take, Nat.min_eq_left (by omega), Nat.sub_self, List.set_cons_zero, List.take_succ_eq_append_getElem h, List.append_assoc]
  simp [List.getD_eq_getElem?_getD, h]
theorem mixA_get {l : List (List Int)} {x : Nat} (z : List Int) (h : x < l.length) : (l.take x ++ List.replicate (l.length - x) z).getD x [] = z := by
  have e : l.length - x = (l.length - (x + 1)) + 1 := by omega
  rw [List.getD_eq_getElem?_getD, List.getElem?_append_right (by simp; omega), List.length_take, Nat.min_eq_left (by omega), Nat.sub_self, e]
  rfl
theorem p21o (l : List (List Int)) (hl : l.length ≤ 1048576) (hm : ∀ r ∈ l, r.length = 6) : ACall Try.prog 21 [.list (aggs l)] [] (fun v s => v = .ref 0 0 0 l.length ∧ s = [.arr 0 59 6 (aggs l)]) := by
  refine e21 (by simp) fun _ _ => ?_
  simp only [k21, argEnv, aggs_repl, take6, List.drop_zero, Int.cast_ofNat_Int, go_sem, ↓reduceIte, Nat.reduceEqDiff, Nat.reduceAdd, Nat.reduceMul, Nat.reduceLeDiff, Nat.reduceLT, Int.reduceLE, Int.reduceLT, reduceCtorEq]
  refine ⟨by omega, ?_⟩
  refine KL_ind k21_b0.eq_1 (fun x : Nat => [(4, .int .i64 x), (3, .ref 0 0 0 l.length), (0, .list (aggs l))]) (fun x => [.arr 0 59 6 (aggs (l.take x ++ List.replicate (l.length - x) [0, 0, 0, 0, 0, 0]))]) (fun x => x ≤ l.length) (fun x => l.length - x) [4, 3, 0] 0 (by simp [keep]) (by simp) (Nat.zero_le _) fun x hi ih => ?_
  try simp only [take6, List.drop_zero, Int.cast_ofNat_Int, go_sem, ↓reduceIte, Nat.reduceEqDiff, Nat.reduceAdd, Nat.reduceMul, Nat.reduceLeDiff, Nat.reduceLT, Int.reduceLE, Int.reduceLT, reduceCtorEq]
  refine ⟨fun h1 => ⟨by omega, fun h2 => ?_⟩, fun h1 => ?_⟩
  · have h6 : (l.getD x []).length = 6 := by rw [getD_eq h2]; exact hm _ (List.getElem_mem h2)
    try simp only [h6, take6, List.drop_zero, Int.cast_ofNat_Int, go_sem, ↓reduceIte, Nat.reduceEqDiff, Nat.reduceAdd, Nat.reduceMul, Nat.reduceLeDiff, Nat.reduceLT, Int.reduceLE, Int.reduceLT, reduceCtorEq]
    refine (p53 _ h6).go ?_
    try simp only [h6, List.length_take, List.length_replicate, mixA_get _ h2, take6, List.drop_zero, Int.cast_ofNat_Int, go_sem, ↓reduceIte, Nat.reduceEqDiff, Nat.reduceAdd, Nat.reduceMul, Nat.reduceLeDiff, Nat.reduceLT, Int.reduceLE, Int.reduceLT, reduceCtorEq]
    repeat' (first | refine And.intro ?_ ?_ | intro _)
    all_goals (try omega)
    all_goals first
      | (rw [copyA_step _ h2]; exact ih (x + 1) (by omega) (by omega) _ _ (by simp [keep]) rfl)
      | skip
  · obtain rfl : x = l.length := by omega
    have e : l.take l.length ++ List.replicate (l.length - l.length) [0, 0, 0, 0, 0, 0] = l := by simp
    rw [e]
    exact Kv.Fin.now ⟨rfl, rfl⟩
theorem p21 (l : List (List Int)) (hl : l.length ≤ 1048576) (hm : ∀ r ∈ l, r.length = 6) : Pure Try.prog 21 [.list (aggs l)] (.list (aggs l)) :=
  ACall.ret (p21o l hl hm) fun v s ⟨hv, hs⟩ => by
    subst hv; subst hs
    exact Fin.freeze (Imm.refa rfl) ⟨rfl, rfl⟩
theorem takeL_succ_eq {xs ys : List (List Int)} {x : Nat} (ht : xs.take x = ys.take x) (h1 : x < xs.length) (h2 : x < ys.length) (he : xs.getD x [] = ys.getD x []) : xs.take (x + 1) = ys.take (x + 1) := by
  rw [List.take_succ_eq_append_getElem h1, List.take_succ_eq_append_getElem h2, ht]
  simp [List.getD_eq_getElem?_getD, h1, h2] at he
  rw [he]
theorem p23 (a b : List (List Int)) (ha : a.length ≤ 4294967296) (hb : b.length ≤ 4294967296) (hma : ∀ r ∈ a, r.length = 6) (hmb : ∀ r ∈ b, r.length = 6) : Pure Try.prog 23 [.list (aggs a), .list (aggs b)] (.bool (decide (a = b))) := by
  refine e23 (by simp) fun _ _ => ?_
  simp only [k23, argEnv, take6, List.drop_zero, Int.cast_ofNat_Int, go_sem, ↓reduceIte, Nat.reduceEqDiff, Nat.reduceAdd, Nat.reduceMul, Nat.reduceLeDiff, Nat.reduceLT, Int.reduceLE, Int.reduceLT, reduceCtorEq]
  refine ⟨fun h => Kv.Fin.now ⟨?_, rfl⟩, fun h => ?_⟩
  · have : a ≠ b := fun e => h (by rw [e])
    simp [this]
  · have hlen : a.length = b.length := by omega
    refine KL_ind k23_b0.eq_1 (fun x : Nat => [(5, .int .i64 x), (0, .list (aggs a)), (1, .list (aggs b))]) (fun _ => []) (fun x => x ≤ a.length ∧ a.take x = b.take x) (fun x => a.length - x) [5, 0, 1] 0 (by rfl) rfl ⟨Nat.zero_le _, by simp⟩ fun x ⟨hi, ht⟩ ih => ?_
    try simp only [take6, List.drop_zero, Int.cast_ofNat_Int, go_sem, ↓reduceIte, Nat.reduceEqDiff, Nat.reduceAdd, Nat.reduceMul, Nat.reduceLeDiff, Nat.reduceLT, Int.reduceLE, Int.reduceLT, reduceCtorEq]
    refine ⟨fun h1 => ⟨by omega, fun h2 => ?_⟩, fun h1 => ?_⟩
    · have h6 : (a.getD x []).length = 6 := by rw [getD_eq h2]; exact hma _ (List.getElem_mem h2)
      have h2' : x < b.length := by omega
      have h6' : (b.getD x []).length = 6 := by rw [getD_eq h2']; exact hmb _ (List.getElem_mem h2')
      try simp only [h6, h6', h2', take6, List.drop_zero, Int.cast_ofNat_Int, go_sem, ↓reduceIte, Nat.reduceEqDiff, Nat.reduceAdd, Nat.reduceMul, Nat.reduceLeDiff, Nat.reduceLT, Int.reduceLE, Int.reduceLT, reduceCtorEq]
      refine ⟨by omega, ?_⟩
      refine (p56 _ _ h6 h6').pgo ?_
      try simp only [take6, List.drop_zero, Int.cast_ofNat_Int, go_sem, ↓reduceIte, Nat.reduceEqDiff, Nat.reduceAdd, Nat.reduceMul, Nat.reduceLeDiff, Nat.reduceLT, Int.reduceLE, Int.reduceLT, reduceCtorEq]
      refine ⟨fun h4 => ?_, fun h4 => ⟨by omega, ?_⟩⟩
      · have : a ≠ b := fun e => h4 (by rw [e])
        exact Kv.Fin.now ⟨by simp [this], rfl⟩
      · exact ih (x + 1) ⟨by omega, takeL_succ_eq ht h2 h2' h4⟩ (by omega) _ _ (by rfl) rfl
    · obtain rfl : x = a.length := by omega
      have : a = b := by rw [List.take_length, hlen, List.take_length] at ht; exact ht
      exact Kv.Fin.now ⟨by simp [this], rfl⟩
end Go.Proofs.Ytpepbomifjbgnaa
end
section
/- Lists of maps, joined. -/
namespace Go.Proofs.Ytpepbomifjbgnaa
open Go.Kv
set_option maxRecDepth 100000
end Go.Proofs.Ytpepbomifjbgnaa
namespace Go.Proofs.Ytpepbomifjbgnaa
open Go.Kv
set_option linter.unusedVariables false
set_option linter.unusedSimpArgs false
attribute [local irreducible] ACall PCall KL
theorem p137 (n : Int) (h00 : 0 ≤ n) (hn : n ≤ 4294967296) {K : PV → Heap → Prop} (h0 : n = 0 → K .nils []) (h1 : 0 < n → K (.ref 0 0 0 0) [.arr 0 59 6 (aggs (List.replicate n.toNat [0, 0, 0, 0, 0, 0]))]) :
    ACall Try.prog 137 [.nils, .int .i64 n] [] K := by
  refine e137 (by simp) fun _ _ => ?_
  simp only [k137, argEnv, take6, List.drop_zero, Int.cast_ofNat_Int, go_sem, ↓reduceIte, Nat.reduceEqDiff, Nat.reduceAdd, Nat.reduceMul, Nat.reduceLeDiff, Nat.reduceLT, Int.reduceLE, Int.reduceLT, reduceCtorEq]
  repeat' (first | refine And.intro ?_ ?_ | intro _)
  all_goals (try omega)
  · rename_i hp
    have e : n - (0 - 0) = n := by omega
    rw [e, aggs_repl]
    exact Kv.Fin.now (h1 (by omega))
  · exact Kv.Fin.now (h0 (by omega))
/-- A list of maps as a value: nil, or a list. -/
inductive Ms : PV → List (List Int) → Prop
  | nil : Ms .nils []
  | list (l : List (List Int)) : Ms (.list (aggs l)) l
theorem p101 (w : PV) (a b : List (List Int)) (hw : Ms w b) (ha : a.length ≤ 1048576) (hb : b.length ≤ 1048576) (hma : ∀ r ∈ a, r.length = 6) (hmb : ∀ r ∈ b, r.length = 6) :
    ACall Try.prog 101 [.list [.list (aggs a), w]] [] (fun v s => ∃ ver, v = .ref 0 ver 0 (a ++ b).length ∧ s = [.arr ver 59 6 (aggs (a ++ b))]) := by
  have hoa := okL_aggs 6 a
  have hob := okL_aggs 6 b
  rw [eq_true hma] at hoa
  rw [eq_true hmb] at hob
  have hap : aggs a ++ aggs b = aggs (a ++ b) := by simp [aggs]
  have hnil : aggs ([] : List (List Int)) = [] := rfl
  cases hw
  all_goals
    refine e101 (by simp) fun _ _ => ?_
    simp only [k101, argEnv, take6, List.drop_zero, Int.cast_ofNat_Int, go_sem, ↓reduceIte, Nat.reduceEqDiff, Nat.reduceAdd, Nat.reduceMul, Nat.reduceLeDiff, Nat.reduceLT, Int.reduceLE, Int.reduceLT, reduceCtorEq]
    refine KL_round ?_
    rw [k101_b0.eq_1]
    try simp only [take6, List.drop_zero, Int.cast_ofNat_Int, go_sem, ↓reduceIte, Nat.reduceEqDiff, Nat.reduceAdd, Nat.reduceMul, Nat.reduceLeDiff, Nat.reduceLT, Int.reduceLE, Int.reduceLT, reduceCtorEq]
    repeat' (first | refine And.intro ?_ ?_ | intro _)
    all_goals (try omega)
    refine KL_round ?_
    try simp only [Int.reduceAdd, Int.reduceToNat, Int.zero_add, take6, List.drop_zero, Int.cast_ofNat_Int, go_sem, ↓reduceIte, Nat.reduceEqDiff, Nat.reduceAdd, Nat.reduceMul, Nat.reduceLeDiff, Nat.reduceLT, Int.reduceLE, Int.reduceLT, reduceCtorEq]
    repeat' (first | refine And.intro ?_ ?_ | intro _)
    all_goals (try omega)
    refine KL_round ?_
    try simp only [Int.reduceAdd, Int.reduceToNat, Int.zero_add, take6, List.drop_zero, Int.cast_ofNat_Int, go_sem, ↓reduceIte, Nat.reduceEqDiff, Nat.reduceAdd, Nat.reduceMul, Nat.reduceLeDiff, Nat.reduceLT, Int.reduceLE, Int.reduceLT, reduceCtorEq]
    repeat' (first | refine And.intro ?_ ?_ | intro _)
    all_goals (try omega)
    refine (p137 _ (by omega) (by omega) (fun h0 => ?_) (fun h0 => ?_))
  all_goals
    try simp only [take6, List.drop_zero, Int.cast_ofNat_Int, go_sem, ↓reduceIte, Nat.reduceEqDiff, Nat.reduceAdd, Nat.reduceMul, Nat.reduceLeDiff, Nat.reduceLT, Int.reduceLE, Int.reduceLT, reduceCtorEq]
    refine KL_round ?_
    rw [k101_b1.eq_1]
    try simp only [hoa, hob, hap, hnil, take6, List.drop_zero, Int.cast_ofNat_Int, go_sem, ↓reduceIte, Nat.reduceEqDiff, Nat.reduceAdd, Nat.reduceMul, Nat.reduceLeDiff, Nat.reduceLT, Int.reduceLE, Int.reduceLT, reduceCtorEq]
    repeat' (first | refine And.intro ?_ ?_ | intro _)
    all_goals (try omega)
    refine KL_round ?_
    try simp only [Int.reduceAdd, Int.reduceToNat, Int.zero_add, hoa, hob, hap, hnil, take6, List.drop_zero, Int.cast_ofNat_Int, go_sem, ↓reduceIte, Nat.reduceEqDiff, Nat.reduceAdd, Nat.reduceMul, Nat.reduceLeDiff, Nat.reduceLT, Int.reduceLE, Int.reduceLT, reduceCtorEq]
    repeat' (first | refine And.intro ?_ ?_ | intro _)
    all_goals (try omega)
    refine KL_round ?_
    try simp only [Int.reduceAdd, Int.reduceToNat, Int.zero_add, hoa, hob, hap, hnil, take6, List.drop_zero, Int.cast_ofNat_Int, go_sem, ↓reduceIte, Nat.reduceEqDiff, Nat.reduceAdd, Nat.reduceMul, Nat.reduceLeDiff, Nat.reduceLT, Int.reduceLE, Int.reduceLT, reduceCtorEq]
    repeat' (first | refine And.intro ?_ ?_ | intro _)
    all_goals (try omega)
    refine Kv.Fin.now ?_
  · exact ⟨1, rfl, rfl⟩
  · exact ⟨2, rfl, by simp⟩
  · exact ⟨1, rfl, rfl⟩
  · exact ⟨2, rfl, by simp⟩
theorem Imm.refs {σ : Heap} {id ver n : Nat} {e : TypeId} {cs : List PV} (h : σ[id]? = some (.arr ver e 1 cs)) (hn : n = cs.length) (hc : ∀ c ∈ cs, c.cs = [c] ∧ c.ok = true ∧ Still c) : Imm σ (.ref id ver 0 n) (.list cs) := by
  subst hn
  exact .ref id ver 0 cs.length e 1 cs cs h (by simp) rfl
    (fun i x d hx hd => by simp only [Nat.zero_add, hd, Option.some.injEq] at hx; subst hx; have h1 := hc _ (List.mem_of_getElem? hd); rw [h1.1]; exact ⟨rfl, by simp [h1.2.1]⟩)
    (fun i x d j c c' hx hd hcc hc' => by
      simp only [Nat.zero_add, hd, Option.some.injEq] at hx; subst hx
      have h1 := hc _ (List.mem_of_getElem? hd)
      rw [hcc] at hc'; cases hc'
      rw [h1.1] at hcc
      have := List.mem_of_getElem? hcc
      simp only [List.mem_singleton] at this; subst this
      have := h1.2.2
      exact Imm.still)
theorem Ms.still {w : PV} {l : List (List Int)} (h : Ms w l) : w.cs = [w] ∧ w.ok = true ∧ Still w := by
  cases h
  · exact ⟨rfl, rfl, inferInstance⟩
  · exact ⟨rfl, rfl, inferInstance⟩
theorem p101L (σ : Heap) (id : Nat) (w : PV) (a b : List (List Int)) (hw : Ms w b) (hid : σ[id]? = some (.arr 0 35 1 [.list (aggs a), w])) (ha : a.length ≤ 1048576) (hb : b.length ≤ 1048576) (hma : ∀ r ∈ a, r.length = 6) (hmb : ∀ r ∈ b, r.length = 6) {K : PV → Heap → Prop}
    (hK : ∀ ver, K (.ref σ.length ver 0 (a ++ b).length) (σ ++ [.arr ver 59 6 (aggs (a ++ b))])) :
    ACall Try.prog 101 [.ref id 0 0 2] σ K := by
  have him : Imm σ (.ref id 0 0 2) (.list [.list (aggs a), w]) := Imm.refs hid rfl fun c hc => by
    simp only [List.mem_cons, List.not_mem_nil, or_false] at hc
    rcases hc with rfl | rfl
    · exact ⟨rfl, rfl, inferInstance⟩
    · exact hw.still
  refine ACall.lend (p101 w a b hw ha hb hma hmb) (.cons him (.nil _)) fun v s ⟨ver, hv, hs⟩ => ?_
  subst hv; subst hs
  refine ⟨⟨free_ref _ _ _ _, ?_⟩, ?_⟩
  · intro o ho
    simp only [List.mem_singleton] at ho; subst ho
    exact fun c hc => (flat_aggs c hc).fr
  · simpa only [ren_ref, ren_arr, ren_aggs, List.map_cons, List.map_nil, sh_def, Nat.zero_add] using hK ver
end Go.Proofs.Ytpepbomifjbgnaa
end
section
/- Counts by formula: choose, power, and the number of idempotents. -/
namespace Go.Proofs.Ytpepbomifjbgnaa
open Go.Kv
set_option maxRecDepth 100000
end Go.Proofs.Ytpepbomifjbgnaa
namespace Go.Proofs.Ytpepbomifjbgnaa
open Go.Kv
set_option linter.unusedVariables false
set_option linter.unusedSimpArgs false
attribute [local irreducible] ACall PCall KL
def ch (n : Nat) : Nat → Int
  | 0 => 1
  | i + 1 => ch n i * ((n : Int) - i) / ((i : Int) + 1)
theorem ch_bound : ∀ n < 13, ∀ i < 13, i ≤ n → 1 ≤ ch n i ∧ ch n i ≤ 1000 := by decide
theorem pow_bound : ∀ b < 13, ∀ i < 13, 0 ≤ ((b : Nat) : Int) ^ i ∧ ((b : Nat) : Int) ^ i ≤ 10000000000000 := by decide
def si (n : Nat) : Nat → Int
  | 0 => 0
  | k + 1 => si n k + ch n (k + 1) * (((k + 1 : Nat) : Int) ^ (n - (k + 1)))
theorem si_bound : ∀ n < 13, ∀ i < 13, i ≤ n → 0 ≤ si n i ∧ si n i ≤ 100000000000000 := by decide
theorem term_bound : ∀ n < 13, ∀ i < 13, i ≤ n → 0 ≤ ch n i * ((i : Int) ^ (n - i)) ∧ ch n i * ((i : Int) ^ (n - i)) ≤ 100000000000000 := by decide
def cnt (a : Int) : Int := if 1 ≤ a ∧ a ≤ 12 then si a.toNat a.toNat else 0
def cerr (a : Int) : Int := if 1 ≤ a ∧ a ≤ 12 then 0 else 2
theorem plain2 (a b : Int) : Plain (.tup [.int .i64 a, .int .i64 b]) := .tup fun c hc => by
  simp only [List.mem_cons, List.not_mem_nil, or_false] at hc
  rcases hc with rfl | rfl <;> exact .int _ _
end Go.Proofs.Ytpepbomifjbgnaa
end
section
/- The code of lists of maps: both sides. -/
namespace Go.Proofs.Ytpepbomifjbgnaa
open Go.Kv
set_option maxRecDepth 100000
/- impl.listCode -/
/- live [0, 1, 12, 13, 14] -/
def k54_b0 : KC := (.seq (.ops [⟨(some 15), none, .bin .lss (.t 14) (.t 13)⟩])
  (.seq (.cond (.t 15) .skip (.exit 0))
  (.seq (.block 1 (.seq (.ops [⟨(some 16), none, .idxS 6 (.t 12) (.t 14)⟩, ⟨(some 17), none, .load true 6 (.t 16)⟩, ⟨(some 6), none, .alloc [.int .i64 0, .int .i64 0, .int .i64 0, .int .i64 0, .int .i64 0, .int .i64 0]⟩, ⟨none, none, .store 6 (.t 6) (.t 17)⟩])
  (.seq (.ops [⟨(some 18), none, .load true 6 (.t 6)⟩, ⟨(some 19), none, .call (.c (.fn (.func 102) [] [])) [(.t 18)]⟩, ⟨(some 20), none, .not (.t 19)⟩])
  (.cond (.t 20) (.seq (.ops [⟨(some 4), none, .mv (.c (.int .i64 1))⟩])
  .ret) .skip))))
  (.ops [⟨(some 21), none, .bin .add (.t 14) (.c (.int .i64 1))⟩, ⟨(some 14), none, .mv (.t 21)⟩]))))
/- live [0, 29, 30, 31] -/
def k54_b1 : KC := (.seq (.ops [⟨(some 32), none, .bin .lss (.t 31) (.t 30)⟩])
  (.seq (.cond (.t 32) .skip (.exit 2))
  (.seq (.block 3 (.seq (.ops [⟨(some 33), none, .idxS 6 (.t 29) (.t 31)⟩, ⟨(some 34), none, .load true 6 (.t 33)⟩, ⟨(some 8), none, .alloc [.int .i64 0, .int .i64 0, .int .i64 0, .int .i64 0, .int .i64 0, .int .i64 0]⟩, ⟨none, none, .store 6 (.t 8) (.t 34)⟩])
  (.seq (.draw [⟨(some 35), none, .fieldA 0 (.t 8)⟩, ⟨(some 36), none, .load false 1 (.t 35)⟩, ⟨(some 37), none, .mv (.t 0)⟩, ⟨(some 38), none, .idxS 6 (.t 37) (.c (.int .i64 0))⟩, ⟨(some 39), none, .fieldA 0 (.t 38)⟩, ⟨(some 40), none, .load false 1 (.t 39)⟩, ⟨(some 41), none, .bin .neq (.t 36) (.t 40)⟩])
  (.cond (.t 41) (.seq (.ops [⟨(some 4), none, .mv (.c (.int .i64 2))⟩])
  .ret) .skip))))
  (.ops [⟨(some 42), none, .bin .add (.t 31) (.c (.int .i64 1))⟩, ⟨(some 31), none, .mv (.t 42)⟩]))))
def k54 : KC := (.seq (.ops [⟨(some 4), none, .mv (.c (.int .i64 0))⟩])
  (.seq (.seq (.ops [⟨(some 9), none, .mv (.t 0)⟩, ⟨(some 10), none, .mv (.t 1)⟩, ⟨(some 11), none, .bsl false 35 1 [(.t 9), (.t 10)]⟩, ⟨(some 12), none, .call (.c (.fn (.func 101) [] [])) [(.t 11)]⟩, ⟨(some 13), none, .len false (.t 12)⟩, ⟨(some 14), none, .mv (.c (.int .i64 0))⟩])
  (.block 0 (.loop k54_b0)))
  (.seq (.seq (.ops [⟨(some 22), none, .mv (.t 0)⟩, ⟨(some 23), none, .len false (.t 22)⟩, ⟨(some 24), none, .call (.c (.fn (.func 91) [] [])) [(.t 23), (.c (.int .i64 1)), (.c (.int .i64 6))]⟩, ⟨(some 25), none, .not (.t 24)⟩])
  (.cond (.t 25) (.seq (.ops [⟨(some 4), none, .mv (.c (.int .i64 2))⟩])
  .ret) .skip))
  (.seq (.seq (.ops [⟨(some 26), none, .mv (.t 0)⟩, ⟨(some 27), none, .mv (.t 1)⟩, ⟨(some 28), none, .bsl false 35 1 [(.t 26), (.t 27)]⟩, ⟨(some 29), none, .call (.c (.fn (.func 101) [] [])) [(.t 28)]⟩, ⟨(some 30), none, .len false (.t 29)⟩, ⟨(some 31), none, .mv (.c (.int .i64 0))⟩])
  (.block 2 (.loop k54_b1)))
  (.seq (.ops [⟨(some 4), none, .mv (.c (.int .i64 0))⟩])
  .ret)))))
theorem e54 {args : List PV} {σ : Heap} {K : PV → Heap → Prop} (hl : args.length ≤ 43) (h : Wf σ → (∀ a ∈ args, PV.upto σ.length a) → vc (mkCfg Try.prog mixed [] 43 σ.length) k54 (FinK σ.length [.t 4] K) (argEnv 0 args) σ) : ACall Try.prog 54 args σ K :=
  ACall_enter (C := mkCfg Try.prog mixed [] 43 σ.length) (c := Try.f54.body.getD .skip) Try.func54 (by kernel_rfl) (by kernel_rfl) (by kernel_rfl) rfl hl (by kernel_rfl) (by kernel_rfl) h
/- spec.l02Given -/
/- live [0, 1, 5] -/
def k51_b0 : KC := (.seq (.seq (.ops [⟨(some 8), none, .mv (.t 5)⟩, ⟨(some 9), none, .mv (.t 0)⟩, ⟨(some 10), none, .len false (.t 9)⟩, ⟨(some 11), none, .bin .lss (.t 8) (.t 10)⟩])
  (.cond (.t 11) .skip (.exit 0)))
  (.seq (.block 1 (.seq (.ops [⟨(some 14), none, .mv (.t 0)⟩, ⟨(some 15), none, .mv (.t 5)⟩, ⟨(some 16), none, .idxS 6 (.t 14) (.t 15)⟩, ⟨(some 17), none, .load true 6 (.t 16)⟩, ⟨(some 18), none, .call (.c (.fn (.func 98) [] [])) [(.t 17)]⟩, ⟨(some 19), none, .not (.t 18)⟩])
  (.cond (.t 19) (.seq (.ops [⟨(some 4), none, .mv (.c (.int .i64 1))⟩])
  .ret) .skip)))
  (.ops [⟨(some 12), none, .mv (.t 5)⟩, ⟨(some 13), none, .bin .add (.t 12) (.c (.int .i64 1))⟩, ⟨(some 5), none, .mv (.t 13)⟩])))
/- live [0, 1, 6] -/
def k51_b1 : KC := (.seq (.seq (.ops [⟨(some 20), none, .mv (.t 6)⟩, ⟨(some 21), none, .mv (.t 1)⟩, ⟨(some 22), none, .len false (.t 21)⟩, ⟨(some 23), none, .bin .lss (.t 20) (.t 22)⟩])
  (.cond (.t 23) .skip (.exit 2)))
  (.seq (.block 3 (.seq (.ops [⟨(some 26), none, .mv (.t 1)⟩, ⟨(some 27), none, .mv (.t 6)⟩, ⟨(some 28), none, .idxS 6 (.t 26) (.t 27)⟩, ⟨(some 29), none, .load true 6 (.t 28)⟩, ⟨(some 30), none, .call (.c (.fn (.func 98) [] [])) [(.t 29)]⟩, ⟨(some 31), none, .not (.t 30)⟩])
  (.cond (.t 31) (.seq (.ops [⟨(some 4), none, .mv (.c (.int .i64 1))⟩])
  .ret) .skip)))
  (.ops [⟨(some 24), none, .mv (.t 6)⟩, ⟨(some 25), none, .bin .add (.t 24) (.c (.int .i64 1))⟩, ⟨(some 6), none, .mv (.t 25)⟩])))
/- live [0, 1, 7] -/
def k51_b2 : KC := (.seq (.seq (.ops [⟨(some 35), none, .mv (.t 7)⟩, ⟨(some 36), none, .mv (.t 1)⟩, ⟨(some 37), none, .len false (.t 36)⟩, ⟨(some 38), none, .bin .lss (.t 35) (.t 37)⟩])
  (.cond (.t 38) .skip (.exit 4)))
  (.seq (.block 5 (.seq (.draw [⟨(some 41), none, .mv (.t 1)⟩, ⟨(some 42), none, .mv (.t 7)⟩, ⟨(some 43), none, .idxS 6 (.t 41) (.t 42)⟩, ⟨(some 44), none, .fieldA 0 (.t 43)⟩, ⟨(some 45), none, .load false 1 (.t 44)⟩, ⟨(some 46), none, .mv (.t 0)⟩, ⟨(some 47), none, .idxS 6 (.t 46) (.c (.int .i64 0))⟩, ⟨(some 48), none, .fieldA 0 (.t 47)⟩, ⟨(some 49), none, .load false 1 (.t 48)⟩, ⟨(some 50), none, .bin .neq (.t 45) (.t 49)⟩])
  (.cond (.t 50) (.seq (.ops [⟨(some 4), none, .mv (.c (.int .i64 2))⟩])
  .ret) .skip)))
  (.ops [⟨(some 39), none, .mv (.t 7)⟩, ⟨(some 40), none, .bin .add (.t 39) (.c (.int .i64 1))⟩, ⟨(some 7), none, .mv (.t 40)⟩])))
def k51 : KC := (.seq (.ops [⟨(some 4), none, .mv (.c (.int .i64 0))⟩])
  (.seq (.seq (.ops [⟨(some 5), none, .mv (.c (.int .i64 0))⟩])
  (.block 0 (.loop k51_b0)))
  (.seq (.seq (.ops [⟨(some 6), none, .mv (.c (.int .i64 0))⟩])
  (.block 2 (.loop k51_b1)))
  (.seq (.seq (.ops [⟨(some 32), none, .mv (.t 0)⟩, ⟨(some 33), none, .call (.c (.fn (.func 99) [] [])) [(.t 32)]⟩, ⟨(some 34), none, .not (.t 33)⟩])
  (.cond (.t 34) (.seq (.ops [⟨(some 4), none, .mv (.c (.int .i64 2))⟩])
  .ret) .skip))
  (.seq (.seq (.ops [⟨(some 7), none, .mv (.c (.int .i64 0))⟩])
  (.block 4 (.loop k51_b2)))
  (.seq (.ops [⟨(some 4), none, .mv (.c (.int .i64 0))⟩])
  .ret))))))
theorem e51 {args : List PV} {σ : Heap} {K : PV → Heap → Prop} (hl : args.length ≤ 51) (h : Wf σ → (∀ a ∈ args, PV.upto σ.length a) → vc (mkCfg Try.prog mixed [] 51 σ.length) k51 (FinK σ.length [.t 4] K) (argEnv 0 args) σ) : ACall Try.prog 51 args σ K :=
  ACall_enter (C := mkCfg Try.prog mixed [] 51 σ.length) (c := Try.f51.body.getD .skip) Try.func51 (by kernel_rfl) (by kernel_rfl) (by kernel_rfl) rfl hl (by kernel_rfl) (by kernel_rfl) h
/- spec.l01Same -/
/- live [0, 3, 25, 26, 27, 28, 29, 30, 31, 32, 33, 34] -/
def k99_b0 : KC := (.seq (.seq (.ops [⟨(some 12), none, .mv (.t 3)⟩, ⟨(some 13), none, .mv (.t 0)⟩, ⟨(some 14), none, .len false (.t 13)⟩, ⟨(some 15), none, .bin .lss (.t 12) (.t 14)⟩])
  (.cond (.t 15) .skip (.exit 0)))
  (.seq (.block 1 (.seq (.draw [⟨(some 18), none, .mv (.t 0)⟩, ⟨(some 19), none, .mv (.t 3)⟩, ⟨(some 20), none, .idxS 6 (.t 18) (.t 19)⟩, ⟨(some 21), none, .load true 6 (.t 20)⟩, ⟨(some 22), none, .pcall (.c (.fn (.func 98) [] [])) [(.t 21)]⟩, ⟨(some 23), none, .not (.t 22)⟩, ⟨(some 24), none, .mv (.t 23)⟩, ⟨(some 25), some (24, false), .mv (.t 0)⟩, ⟨(some 26), some (24, false), .mv (.t 3)⟩, ⟨(some 27), some (24, false), .idxS 6 (.t 25) (.t 26)⟩, ⟨(some 28), some (24, false), .fieldA 0 (.t 27)⟩, ⟨(some 29), some (24, false), .load false 1 (.t 28)⟩, ⟨(some 30), some (24, false), .mv (.t 0)⟩, ⟨(some 31), some (24, false), .idxS 6 (.t 30) (.c (.int .i64 0))⟩, ⟨(some 32), some (24, false), .fieldA 0 (.t 31)⟩, ⟨(some 33), some (24, false), .load false 1 (.t 32)⟩, ⟨(some 34), some (24, false), .bin .neq (.t 29) (.t 33)⟩, ⟨(some 35), none, .pick (.t 24) (.c (.bool true)) (.t 34)⟩])
  (.cond (.t 35) (.seq (.ops [⟨(some 2), none, .mv (.c (.bool false))⟩])
  .ret) .skip)))
  (.ops [⟨(some 16), none, .mv (.t 3)⟩, ⟨(some 17), none, .bin .add (.t 16) (.c (.int .i64 1))⟩, ⟨(some 3), none, .mv (.t 17)⟩])))
def k99 : KC := (.seq (.ops [⟨(some 2), none, .mv (.c (.bool false))⟩])
  (.seq (.seq (.ops [⟨(some 4), none, .mv (.t 0)⟩, ⟨(some 5), none, .len false (.t 4)⟩, ⟨(some 6), none, .bin .lss (.t 5) (.c (.int .i64 1))⟩, ⟨(some 7), none, .mv (.t 6)⟩, ⟨(some 8), some (7, false), .mv (.t 0)⟩, ⟨(some 9), some (7, false), .len false (.t 8)⟩, ⟨(some 10), some (7, false), .bin .gtr (.t 9) (.c (.int .i64 6))⟩, ⟨(some 11), none, .pick (.t 7) (.c (.bool true)) (.t 10)⟩])
  (.cond (.t 11) (.seq (.ops [⟨(some 2), none, .mv (.c (.bool false))⟩])
  .ret) .skip))
  (.seq (.seq (.ops [⟨(some 3), none, .mv (.c (.int .i64 0))⟩])
  (.block 0 (.loop k99_b0)))
  (.seq (.ops [⟨(some 2), none, .mv (.c (.bool true))⟩])
  .ret))))
theorem e99 {args : List PV} {σ : Heap} {K : PV → Heap → Prop} (hl : args.length ≤ 36) (h : Wf σ → (∀ a ∈ args, PV.upto σ.length a) → vc (mkCfg Try.prog mixed [] 36 σ.length) k99 (FinK σ.length [.t 2] K) (argEnv 0 args) σ) : ACall Try.prog 99 args σ K :=
  ACall_enter (C := mkCfg Try.prog mixed [] 36 σ.length) (c := Try.f99.body.getD .skip) Try.func99 (by kernel_rfl) (by kernel_rfl) (by kernel_rfl) rfl hl (by kernel_rfl) (by kernel_rfl) h
end Go.Proofs.Ytpepbomifjbgnaa
namespace Go.Proofs.Ytpepbomifjbgnaa
open Go.Kv
set_option linter.unusedVariables false
set_option linter.unusedSimpArgs false
attribute [local irreducible] ACall PCall KL
/-- What a list of maps and some more come to: none is no map, their number, their points. -/
def lcode (a b : List (List Int)) : Int :=
  if (a ++ b).all isM = false then 1 else if ¬ (1 ≤ a.length ∧ a.length ≤ 6) then 2 else if (a ++ b).all (fun r => decide (r.getD 0 0 = (a.getD 0 []).getD 0 0)) = false then 2 else 0
theorem all_false {α : Type} {l : List α} {x : Nat} {p : α → Bool} (h : x < l.length) (hp : p l[x] = false) : l.all p = false := by
  rw [List.all_eq_false]; exact ⟨l[x], List.getElem_mem h, by simp [hp]⟩
theorem p54 (w : PV) (a b : List (List Int)) (hw : Ms w b) (ha : a.length ≤ 1048576) (hb : b.length ≤ 1048576) (hma : ∀ r ∈ a, r.length = 6) (hmb : ∀ r ∈ b, r.length = 6) :
    Pure Try.prog 54 [.list (aggs a), w] (.int .i64 (lcode a b)) := by
  have hab : ∀ r ∈ a ++ b, r.length = 6 := fun r hr => (List.mem_append.1 hr).elim (hma r) (hmb r)
  have hlab : (a ++ b).length ≤ 2097152 := by simp; omega
  have hwu : ∀ n, w.undr n = true := fun n => by cases hw <;> simp [PV.undr, undrX_aggs]
  have hwc := hw.still
  have hwk : w.cs.length = 1 := by rw [hwc.1]; rfl
  have hwk2 : w.cs.all PV.ok = true := by rw [hwc.1]; simp [hwc.2.1]
  refine e54 (by simp) fun _ _ => ?_
  simp only [k54, argEnv, OpK_eq, hwk, hwk2, take6, List.drop_zero, Int.cast_ofNat_Int, go_sem, ↓reduceIte, Nat.reduceEqDiff, Nat.reduceAdd, Nat.reduceMul, Nat.reduceLeDiff, Nat.reduceLT, Int.reduceLE, Int.reduceLT, reduceCtorEq]
  refine p101L _ 0 w a b hw rfl ha hb hma hmb fun ver => ?_
  try simp only [take6, List.drop_zero, Int.cast_ofNat_Int, go_sem, ↓reduceIte, Nat.reduceEqDiff, Nat.reduceAdd, Nat.reduceMul, Nat.reduceLeDiff, Nat.reduceLT, Int.reduceLE, Int.reduceLT, reduceCtorEq]
  have hsum : a.length + b.length = (a ++ b).length := by simp
  rw [hsum]
  have hlc : lcode a b = if (a ++ b).all isM = false then 1 else if ¬ (1 ≤ a.length ∧ a.length ≤ 6) then 2 else if (a ++ b).all (fun r => decide (r.getD 0 0 = (a.getD 0 []).getD 0 0)) = false then 2 else 0 := rfl
  generalize hL : a ++ b = l at *
  refine KL_indD k54_b0.eq_1 (fun x : Nat => [(0, .list (aggs a)), (1, w), (12, .ref 1 ver 0 l.length), (13, .int .i64 l.length), (14, .int .i64 x)]) (fun _ => [.arr 0 35 1 [.list (aggs a), w], .arr ver 59 6 (aggs l)]) (fun x => x ≤ l.length ∧ (l.take x).all isM = true) (fun x => l.length - x) [0, 1, 12, 13, 14] 0 (by rfl) ⟨[], rfl⟩ ⟨Nat.zero_le _, by simp⟩ (fun x hx => ?_) fun x ⟨hx, hall⟩ ih => ?_
  · refine ⟨Nat.zero_le _, ?_, ?_⟩
    · exact Env.undr_upto (by simp [Env.undr, PV.undr, hwu, undrX_aggs])
    · exact .cons (by simp [AObj.undr, PV.undr, PV.undrX, hwu, undrX_aggs]) (.cons (by simp [AObj.undr, undrX_aggs]) (.nil _))
  try simp only [take6, List.drop_zero, Int.cast_ofNat_Int, go_sem, ↓reduceIte, Nat.reduceEqDiff, Nat.reduceAdd, Nat.reduceMul, Nat.reduceLeDiff, Nat.reduceLT, Int.reduceLE, Int.reduceLT, reduceCtorEq]
  refine ⟨fun h1 => ⟨by omega, by omega, fun h2 => ?_⟩, fun h1 => ?_⟩
  · have h6 := hab _ (List.getElem_mem h2)
    rw [getD_eq h2]
    try simp only [h6, take6, List.drop_zero, Int.cast_ofNat_Int, go_sem, ↓reduceIte, Nat.reduceEqDiff, Nat.reduceAdd, Nat.reduceMul, Nat.reduceLeDiff, Nat.reduceLT, Int.reduceLE, Int.reduceLT, reduceCtorEq]
    refine (p102 _ h6).go ?_
    try simp only [take6, List.drop_zero, Int.cast_ofNat_Int, go_sem, ↓reduceIte, Nat.reduceEqDiff, Nat.reduceAdd, Nat.reduceMul, Nat.reduceLeDiff, Nat.reduceLT, Int.reduceLE, Int.reduceLT, reduceCtorEq]
    refine ⟨fun h3 => ?_, fun h3 => ⟨by omega, ?_⟩⟩
    · refine Kv.Fin.still ⟨?_, rfl⟩
      rw [hlc, if_pos (all_false h2 h3)]
    · refine ih (x + 1) ⟨by omega, ?_⟩ (by omega) _ _ (by rfl) ⟨[_], rfl⟩
      rw [all_take_succ _ h2, hall, h3]; rfl
  · obtain rfl : x = l.length := by omega
    rw [List.take_length] at hall
    have hlc : lcode a b = if ¬ (1 ≤ a.length ∧ a.length ≤ 6) then 2 else if l.all (fun r => decide (r.getD 0 0 = (a.getD 0 []).getD 0 0)) = false then 2 else 0 := by rw [hlc, if_neg (by rw [hall]; simp)]
    refine (p91 _ _ _).go ?_
    try simp only [take6, List.drop_zero, Int.cast_ofNat_Int, go_sem, ↓reduceIte, Nat.reduceEqDiff, Nat.reduceAdd, Nat.reduceMul, Nat.reduceLeDiff, Nat.reduceLT, Int.reduceLE, Int.reduceLT, reduceCtorEq]
    refine ⟨fun h2 => Kv.Fin.still ⟨by rw [hlc, if_pos (by omega)], rfl⟩, fun h2 => ?_⟩
    have hlc : lcode a b = if l.all (fun r => decide (r.getD 0 0 = (a.getD 0 []).getD 0 0)) = false then 2 else 0 := by rw [hlc, if_neg (by omega)]
    try simp only [OpK_eq, hwk, hwk2, take6, List.drop_zero, Int.cast_ofNat_Int, go_sem, ↓reduceIte, Nat.reduceEqDiff, Nat.reduceAdd, Nat.reduceMul, Nat.reduceLeDiff, Nat.reduceLT, Int.reduceLE, Int.reduceLT, reduceCtorEq]
    refine p101L _ 2 w a b hw rfl ha hb hma hmb fun ver2 => ?_
    rw [hL]
    try simp only [take6, List.drop_zero, Int.cast_ofNat_Int, go_sem, ↓reduceIte, Nat.reduceEqDiff, Nat.reduceAdd, Nat.reduceMul, Nat.reduceLeDiff, Nat.reduceLT, Int.reduceLE, Int.reduceLT, reduceCtorEq]
    have h0 : 0 < a.length := by omega
    have h06 : (a.getD 0 []).length = 6 := by rw [getD_eq h0]; exact hma _ (List.getElem_mem h0)
    refine KL_indD k54_b1.eq_1 (fun x : Nat => [(0, .list (aggs a)), (29, .ref 3 ver2 0 l.length), (30, .int .i64 l.length), (31, .int .i64 x)]) (fun _ => [.arr 0 35 1 [.list (aggs a), w], .arr ver 59 6 (aggs l), .arr 0 35 1 [.list (aggs a), w], .arr ver2 59 6 (aggs l)]) (fun x => x ≤ l.length ∧ (l.take x).all (fun r => decide (r.getD 0 0 = (a.getD 0 []).getD 0 0)) = true) (fun x => l.length - x) [0, 29, 30, 31] 0 (by rfl) ⟨[], rfl⟩ ⟨Nat.zero_le _, by simp⟩ (fun x hx => ?_) fun x ⟨hx, hall⟩ ih => ?_
    · refine ⟨Nat.zero_le _, ?_, ?_⟩
      · exact Env.undr_upto (by simp [Env.undr, PV.undr, hwu, undrX_aggs])
      · exact .cons (by simp [AObj.undr, PV.undr, PV.undrX, hwu, undrX_aggs]) (.cons (by simp [AObj.undr, undrX_aggs]) (.cons (by simp [AObj.undr, PV.undr, PV.undrX, hwu, undrX_aggs]) (.cons (by simp [AObj.undr, undrX_aggs]) (.nil _))))
    try simp only [take6, List.drop_zero, Int.cast_ofNat_Int, go_sem, ↓reduceIte, Nat.reduceEqDiff, Nat.reduceAdd, Nat.reduceMul, Nat.reduceLeDiff, Nat.reduceLT, Int.reduceLE, Int.reduceLT, reduceCtorEq]
    refine ⟨fun h1 => ⟨by omega, by omega, fun h2 => ?_⟩, fun h1 => ?_⟩
    · have h6 := hab _ (List.getElem_mem h2)
      rw [getD_eq h2]
      try simp only [h6, h06, h0, take6, List.drop_zero, Int.cast_ofNat_Int, go_sem, ↓reduceIte, Nat.reduceEqDiff, Nat.reduceAdd, Nat.reduceMul, Nat.reduceLeDiff, Nat.reduceLT, Int.reduceLE, Int.reduceLT, reduceCtorEq]
      refine ⟨by omega, fun h3 => ?_, fun h3 => ⟨by omega, ?_⟩⟩
      · refine Kv.Fin.still ⟨?_, rfl⟩
        rw [hlc, if_pos (all_false h2 (by simpa using h3))]
      · refine ih (x + 1) ⟨by omega, ?_⟩ (by omega) _ _ (by rfl) ⟨[_], rfl⟩
        rw [all_take_succ _ h2, hall, h3]; simp
    · obtain rfl : x = l.length := by omega
      rw [List.take_length] at hall
      exact Kv.Fin.still ⟨by rw [hlc, if_neg (by rw [hall]; simp)], rfl⟩
/-- Maps of one number of points. -/
def same (l : List (List Int)) : Bool := decide (1 ≤ l.length ∧ l.length ≤ 6) && l.all fun r => isM r && decide (r.getD 0 0 = (l.getD 0 []).getD 0 0)
theorem p99 (l : List (List Int)) (hl : l.length ≤ 1048576) (hm : ∀ r ∈ l, r.length = 6) : Pure Try.prog 99 [.list (aggs l)] (.bool (same l)) := by
  have hsame : same l = (decide (1 ≤ l.length ∧ l.length ≤ 6) && l.all fun r => isM r && decide (r.getD 0 0 = (l.getD 0 []).getD 0 0)) := rfl
  refine e99 (by simp) fun _ _ => ?_
  simp only [k99, argEnv, take6, List.drop_zero, Int.cast_ofNat_Int, go_sem, ↓reduceIte, Nat.reduceEqDiff, Nat.reduceAdd, Nat.reduceMul, Nat.reduceLeDiff, Nat.reduceLT, Int.reduceLE, Int.reduceLT, reduceCtorEq]
  refine ⟨fun h1 => ⟨fun h2 => ?_, fun h2 => ?_⟩, fun h1 => ?_⟩
  · exact Kv.Fin.still ⟨by rw [hsame, decide_eq_false (by omega)]; rfl, rfl⟩
  · have hsame : same l = l.all fun r => isM r && decide (r.getD 0 0 = (l.getD 0 []).getD 0 0) := by rw [hsame, decide_eq_true (by omega), Bool.true_and]
    have h0 : 0 < l.length := by omega
    have h06 : (l.getD 0 []).length = 6 := by rw [getD_eq h0]; exact hm _ (List.getElem_mem h0)
    refine KL_ind k99_b0.eq_1 (fun x : Nat => [(0, .list (aggs l)), (3, .int .i64 x)]) (fun _ => []) (fun x => x ≤ l.length ∧ (l.take x).all (fun r => isM r && decide (r.getD 0 0 = (l.getD 0 []).getD 0 0)) = true) (fun x => l.length - x) [0, 3] 0 (by rfl) rfl ⟨Nat.zero_le _, by simp⟩ fun x ⟨hx, hall⟩ ih => ?_
    try simp only [take6, List.drop_zero, Int.cast_ofNat_Int, go_sem, ↓reduceIte, Nat.reduceEqDiff, Nat.reduceAdd, Nat.reduceMul, Nat.reduceLeDiff, Nat.reduceLT, Int.reduceLE, Int.reduceLT, reduceCtorEq]
    refine ⟨fun h3 => ⟨by omega, fun h4 => ?_⟩, fun h3 => ?_⟩
    · have h6 := hm _ (List.getElem_mem h4)
      rw [getD_eq h4]
      try simp only [h6, take6, List.drop_zero, Int.cast_ofNat_Int, go_sem, ↓reduceIte, Nat.reduceEqDiff, Nat.reduceAdd, Nat.reduceMul, Nat.reduceLeDiff, Nat.reduceLT, Int.reduceLE, Int.reduceLT, reduceCtorEq]
      refine (p98 _ h6).pgo ?_
      cases hM : isM l[x] with
      | false =>
        try simp only [take6, List.drop_zero, Int.cast_ofNat_Int, go_sem, ↓reduceIte, Nat.reduceEqDiff, Nat.reduceAdd, Nat.reduceMul, Nat.reduceLeDiff, Nat.reduceLT, Int.reduceLE, Int.reduceLT, reduceCtorEq]
        exact Kv.Fin.still ⟨by rw [hsame, all_false h4 (by simp [hM])], rfl⟩
      | true =>
        try simp only [take6, List.drop_zero, Int.cast_ofNat_Int, go_sem, ↓reduceIte, Nat.reduceEqDiff, Nat.reduceAdd, Nat.reduceMul, Nat.reduceLeDiff, Nat.reduceLT, Int.reduceLE, Int.reduceLT, reduceCtorEq]
        refine ⟨by omega, fun h5 => ?_⟩
        rw [getD_eq h4]
        try simp only [h6, h06, h0, take6, List.drop_zero, Int.cast_ofNat_Int, go_sem, ↓reduceIte, Nat.reduceEqDiff, Nat.reduceAdd, Nat.reduceMul, Nat.reduceLeDiff, Nat.reduceLT, Int.reduceLE, Int.reduceLT, reduceCtorEq]
        refine ⟨by omega, fun h7 => ?_, fun h7 => ⟨by omega, ?_⟩⟩
        · exact Kv.Fin.still ⟨by rw [hsame, all_false h4 (by simp only [hM, Bool.true_and]; exact decide_eq_false h7)], rfl⟩
        · refine ih (x + 1) ⟨by omega, ?_⟩ (by omega) _ _ (by rfl) rfl
          rw [all_take_succ _ h4, hall, hM, h7]; simp
    · obtain rfl : x = l.length := by omega
      rw [List.take_length] at hall
      exact Kv.Fin.still ⟨by rw [hsame, hall], rfl⟩
  · exact Kv.Fin.still ⟨by rw [hsame, decide_eq_false (by omega)]; rfl, rfl⟩
theorem lcode_eq (a b : List (List Int)) : lcode a b = if a.all isM = false then 1 else if b.all isM = false then 1 else if same a = false then 2 else if b.all (fun r => decide (r.getD 0 0 = (a.getD 0 []).getD 0 0)) = false then 2 else 0 := by
  have h3 : a.all isM = true → (a.all fun r => isM r && decide (r.getD 0 0 = (a.getD 0 []).getD 0 0)) = a.all fun r => decide (r.getD 0 0 = (a.getD 0 []).getD 0 0) := fun h1 => by
    rw [Bool.eq_iff_iff]
    simp only [List.all_eq_true, Bool.and_eq_true] at h1 ⊢
    exact ⟨fun h r hr => (h r hr).2, fun h r hr => ⟨h1 r hr, h r hr⟩⟩
  simp only [lcode, List.all_append]
  cases h1 : a.all isM
  · simp only [Bool.false_and, if_true]
  cases h2 : b.all isM
  · simp only [Bool.true_and, if_true, Bool.false_and, reduceCtorEq, if_false]
  have hs : same a = (decide (1 ≤ a.length ∧ a.length ≤ 6) && a.all fun r => decide (r.getD 0 0 = (a.getD 0 []).getD 0 0)) := by unfold same; rw [h3 h1]
  rw [hs]
  generalize (a.all fun r => decide (r.getD 0 0 = (a.getD 0 []).getD 0 0)) = x
  generalize (b.all fun r => decide (r.getD 0 0 = (a.getD 0 []).getD 0 0)) = y
  by_cases hc : (1 ≤ a.length ∧ a.length ≤ 6) <;> cases x <;> cases y <;> simp [hc]
theorem p51 (a b : List (List Int)) (ha : a.length ≤ 1048576) (hb : b.length ≤ 1048576) (hma : ∀ r ∈ a, r.length = 6) (hmb : ∀ r ∈ b, r.length = 6) :
    Pure Try.prog 51 [.list (aggs a), .list (aggs b)] (.int .i64 (lcode a b)) := by
  rw [lcode_eq]
  refine e51 (by simp) fun _ _ => ?_
  simp only [k51, argEnv, take6, List.drop_zero, Int.cast_ofNat_Int, go_sem, ↓reduceIte, Nat.reduceEqDiff, Nat.reduceAdd, Nat.reduceMul, Nat.reduceLeDiff, Nat.reduceLT, Int.reduceLE, Int.reduceLT, reduceCtorEq]
  refine KL_ind k51_b0.eq_1 (fun x : Nat => [(0, .list (aggs a)), (1, .list (aggs b)), (5, .int .i64 x)]) (fun _ => []) (fun x => x ≤ a.length ∧ (a.take x).all isM = true) (fun x => a.length - x) [0, 1, 5] 0 (by rfl) rfl ⟨Nat.zero_le _, by simp⟩ fun x ⟨hx, hall⟩ ih => ?_
  try simp only [take6, List.drop_zero, Int.cast_ofNat_Int, go_sem, ↓reduceIte, Nat.reduceEqDiff, Nat.reduceAdd, Nat.reduceMul, Nat.reduceLeDiff, Nat.reduceLT, Int.reduceLE, Int.reduceLT, reduceCtorEq]
  refine ⟨fun h3 => ⟨by omega, fun h4 => ?_⟩, fun h3 => ?_⟩
  · have h6 := hma _ (List.getElem_mem h4)
    rw [getD_eq h4]
    try simp only [h6, take6, List.drop_zero, Int.cast_ofNat_Int, go_sem, ↓reduceIte, Nat.reduceEqDiff, Nat.reduceAdd, Nat.reduceMul, Nat.reduceLeDiff, Nat.reduceLT, Int.reduceLE, Int.reduceLT, reduceCtorEq]
    refine (p98 _ h6).go ?_
    try simp only [take6, List.drop_zero, Int.cast_ofNat_Int, go_sem, ↓reduceIte, Nat.reduceEqDiff, Nat.reduceAdd, Nat.reduceMul, Nat.reduceLeDiff, Nat.reduceLT, Int.reduceLE, Int.reduceLT, reduceCtorEq]
    refine ⟨fun h5 => Kv.Fin.still ⟨by rw [if_pos (all_false h4 h5)], rfl⟩, fun h5 => ⟨by omega, ?_⟩⟩
    refine ih (x + 1) ⟨by omega, ?_⟩ (by omega) _ _ (by rfl) rfl
    rw [all_take_succ _ h4, hall, h5]; rfl
  obtain rfl : x = a.length := by omega
  rw [List.take_length] at hall
  rw [if_neg (by rw [hall]; simp)]
  clear ih
  refine KL_ind k51_b1.eq_1 (fun x : Nat => [(0, .list (aggs a)), (1, .list (aggs b)), (6, .int .i64 x)]) (fun _ => []) (fun x => x ≤ b.length ∧ (b.take x).all isM = true) (fun x => b.length - x) [0, 1, 6] 0 (by rfl) rfl ⟨Nat.zero_le _, by simp⟩ fun x ⟨hx, hallb⟩ ih => ?_
  try simp only [take6, List.drop_zero, Int.cast_ofNat_Int, go_sem, ↓reduceIte, Nat.reduceEqDiff, Nat.reduceAdd, Nat.reduceMul, Nat.reduceLeDiff, Nat.reduceLT, Int.reduceLE, Int.reduceLT, reduceCtorEq]
  refine ⟨fun h3 => ⟨by omega, fun h4 => ?_⟩, fun h3 => ?_⟩
  · have h6 := hmb _ (List.getElem_mem h4)
    rw [getD_eq h4]
    try simp only [h6, take6, List.drop_zero, Int.cast_ofNat_Int, go_sem, ↓reduceIte, Nat.reduceEqDiff, Nat.reduceAdd, Nat.reduceMul, Nat.reduceLeDiff, Nat.reduceLT, Int.reduceLE, Int.reduceLT, reduceCtorEq]
    refine (p98 _ h6).go ?_
    try simp only [take6, List.drop_zero, Int.cast_ofNat_Int, go_sem, ↓reduceIte, Nat.reduceEqDiff, Nat.reduceAdd, Nat.reduceMul, Nat.reduceLeDiff, Nat.reduceLT, Int.reduceLE, Int.reduceLT, reduceCtorEq]
    refine ⟨fun h5 => Kv.Fin.still ⟨by rw [if_pos (all_false h4 h5)], rfl⟩, fun h5 => ⟨by omega, ?_⟩⟩
    refine ih (x + 1) ⟨by omega, ?_⟩ (by omega) _ _ (by rfl) rfl
    rw [all_take_succ _ h4, hallb, h5]; rfl
  obtain rfl : x = b.length := by omega
  rw [List.take_length] at hallb
  rw [if_neg (by rw [hallb]; simp)]
  clear ih
  refine (p99 a ha hma).go ?_
  cases hs : same a with
  | false =>
    try simp only [take6, List.drop_zero, Int.cast_ofNat_Int, go_sem, ↓reduceIte, Nat.reduceEqDiff, Nat.reduceAdd, Nat.reduceMul, Nat.reduceLeDiff, Nat.reduceLT, Int.reduceLE, Int.reduceLT, reduceCtorEq]
    exact Kv.Fin.still ⟨by simp, rfl⟩
  | true =>
    try simp only [take6, List.drop_zero, Int.cast_ofNat_Int, go_sem, ↓reduceIte, Nat.reduceEqDiff, Nat.reduceAdd, Nat.reduceMul, Nat.reduceLeDiff, Nat.reduceLT, Int.reduceLE, Int.reduceLT, reduceCtorEq]
    have hs2 := hs
    simp only [same, Bool.and_eq_true, decide_eq_true_eq] at hs2
    have h0 : 0 < a.length := by omega
    have h06 : (a.getD 0 []).length = 6 := by rw [getD_eq h0]; exact hma _ (List.getElem_mem h0)
    refine KL_ind k51_b2.eq_1 (fun x : Nat => [(0, .list (aggs a)), (1, .list (aggs b)), (7, .int .i64 x)]) (fun _ => []) (fun x => x ≤ b.length ∧ (b.take x).all (fun r => decide (r.getD 0 0 = (a.getD 0 []).getD 0 0)) = true) (fun x => b.length - x) [0, 1, 7] 0 (by rfl) rfl ⟨Nat.zero_le _, by simp⟩ fun x ⟨hx, hallc⟩ ih => ?_
    try simp only [take6, List.drop_zero, Int.cast_ofNat_Int, go_sem, ↓reduceIte, Nat.reduceEqDiff, Nat.reduceAdd, Nat.reduceMul, Nat.reduceLeDiff, Nat.reduceLT, Int.reduceLE, Int.reduceLT, reduceCtorEq]
    refine ⟨fun h3 => ⟨by omega, fun h4 => ?_⟩, fun h3 => ?_⟩
    · have h6 := hmb _ (List.getElem_mem h4)
      rw [getD_eq h4]
      try simp only [h6, h06, h0, take6, List.drop_zero, Int.cast_ofNat_Int, go_sem, ↓reduceIte, Nat.reduceEqDiff, Nat.reduceAdd, Nat.reduceMul, Nat.reduceLeDiff, Nat.reduceLT, Int.reduceLE, Int.reduceLT, reduceCtorEq]
      refine ⟨by omega, fun h7 => ?_, fun h7 => ⟨by omega, ?_⟩⟩
      · exact Kv.Fin.still ⟨by rw [all_false h4 (decide_eq_false h7)]; simp, rfl⟩
      · refine ih (x + 1) ⟨by omega, ?_⟩ (by omega) _ _ (by rfl) rfl
        rw [all_take_succ _ h4, hallc, h7]; simp
    · obtain rfl : x = b.length := by omega
      rw [List.take_length] at hallc
      exact Kv.Fin.still ⟨by rw [hallc]; simp, rfl⟩
theorem p51n (a : List (List Int)) (ha : a.length ≤ 1048576) (hma : ∀ r ∈ a, r.length = 6) :
    Pure Try.prog 51 [.list (aggs a), .nils] (.int .i64 (lcode a [])) := by
  rw [lcode_eq]
  refine e51 (by simp) fun _ _ => ?_
  simp only [k51, argEnv, take6, List.drop_zero, Int.cast_ofNat_Int, go_sem, ↓reduceIte, Nat.reduceEqDiff, Nat.reduceAdd, Nat.reduceMul, Nat.reduceLeDiff, Nat.reduceLT, Int.reduceLE, Int.reduceLT, reduceCtorEq]
  refine KL_ind k51_b0.eq_1 (fun x : Nat => [(0, .list (aggs a)), (1, .nils), (5, .int .i64 x)]) (fun _ => []) (fun x => x ≤ a.length ∧ (a.take x).all isM = true) (fun x => a.length - x) [0, 1, 5] 0 (by rfl) rfl ⟨Nat.zero_le _, by simp⟩ fun x ⟨hx, hall⟩ ih => ?_
  try simp only [take6, List.drop_zero, Int.cast_ofNat_Int, go_sem, ↓reduceIte, Nat.reduceEqDiff, Nat.reduceAdd, Nat.reduceMul, Nat.reduceLeDiff, Nat.reduceLT, Int.reduceLE, Int.reduceLT, reduceCtorEq]
  refine ⟨fun h3 => ⟨by omega, fun h4 => ?_⟩, fun h3 => ?_⟩
  · have h6 := hma _ (List.getElem_mem h4)
    rw [getD_eq h4]
    try simp only [h6, take6, List.drop_zero, Int.cast_ofNat_Int, go_sem, ↓reduceIte, Nat.reduceEqDiff, Nat.reduceAdd, Nat.reduceMul, Nat.reduceLeDiff, Nat.reduceLT, Int.reduceLE, Int.reduceLT, reduceCtorEq]
    refine (p98 _ h6).go ?_
    try simp only [take6, List.drop_zero, Int.cast_ofNat_Int, go_sem, ↓reduceIte, Nat.reduceEqDiff, Nat.reduceAdd, Nat.reduceMul, Nat.reduceLeDiff, Nat.reduceLT, Int.reduceLE, Int.reduceLT, reduceCtorEq]
    refine ⟨fun h5 => Kv.Fin.still ⟨by rw [if_pos (all_false h4 h5)], rfl⟩, fun h5 => ⟨by omega, ?_⟩⟩
    refine ih (x + 1) ⟨by omega, ?_⟩ (by omega) _ _ (by rfl) rfl
    rw [all_take_succ _ h4, hall, h5]; rfl
  obtain rfl : x = a.length := by omega
  rw [List.take_length] at hall
  rw [if_neg (by rw [hall]; simp)]
  clear ih
  refine KL_round ?_
  rw [k51_b1.eq_1]
  try simp only [Int.reduceNeg, Int.lt_irrefl, take6, List.drop_zero, Int.cast_ofNat_Int, go_sem, ↓reduceIte, Nat.reduceEqDiff, Nat.reduceAdd, Nat.reduceMul, Nat.reduceLeDiff, Nat.reduceLT, Int.reduceLE, Int.reduceLT, reduceCtorEq]
  refine (p99 a ha hma).go ?_
  cases hs : same a with
  | false =>
    try simp only [take6, List.drop_zero, Int.cast_ofNat_Int, go_sem, ↓reduceIte, Nat.reduceEqDiff, Nat.reduceAdd, Nat.reduceMul, Nat.reduceLeDiff, Nat.reduceLT, Int.reduceLE, Int.reduceLT, reduceCtorEq]
    exact Kv.Fin.still ⟨by simp, rfl⟩
  | true =>
    try simp only [take6, List.drop_zero, Int.cast_ofNat_Int, go_sem, ↓reduceIte, Nat.reduceEqDiff, Nat.reduceAdd, Nat.reduceMul, Nat.reduceLeDiff, Nat.reduceLT, Int.reduceLE, Int.reduceLT, reduceCtorEq]
    refine KL_round ?_
    rw [k51_b2.eq_1]
    try simp only [Int.lt_irrefl, take6, List.drop_zero, Int.cast_ofNat_Int, go_sem, ↓reduceIte, Nat.reduceEqDiff, Nat.reduceAdd, Nat.reduceMul, Nat.reduceLeDiff, Nat.reduceLT, Int.reduceLE, Int.reduceLT, reduceCtorEq]
    exact Kv.Fin.still ⟨by simp, rfl⟩
end Go.Proofs.Ytpepbomifjbgnaa
end
section
/- Partitions: whether they are, whether they are invariant; both sides. -/
namespace Go.Proofs.Ytpepbomifjbgnaa
open Go.Kv
set_option maxRecDepth 100000
/- impl.isInvariant -/
/- live [1, 6, 10, 11, 12, 16, 17, 18] -/
def k112_b0 : KC := (.seq (.ops [⟨(some 19), none, .bin .lss (.t 18) (.t 17)⟩])
  (.seq (.cond (.t 19) .skip (.exit 2))
  (.seq (.block 3 (.seq (.ops [⟨(some 20), none, .mv (.t 18)⟩, ⟨(some 21), none, .idxS 1 (.t 16) (.t 18)⟩, ⟨(some 22), none, .load false 1 (.t 21)⟩, ⟨(some 7), none, .mv (.t 20)⟩, ⟨(some 8), none, .mv (.t 22)⟩])
  (.seq (.ops [⟨(some 23), none, .mv (.t 1)⟩, ⟨(some 24), none, .mv (.t 8)⟩, ⟨(some 25), none, .call (.c (.fn (.func 138) [] [])) [(.t 23), (.t 24)]⟩, ⟨(some 9), none, .mv (.t 25)⟩])
  (.seq (.draw [⟨(some 26), none, .mv (.t 1)⟩, ⟨(some 27), none, .mv (.t 7)⟩, ⟨(some 28), none, .fieldA 1 (.t 6)⟩, ⟨(some 29), none, .idxA 5 1 (.t 28) (.t 27)⟩, ⟨(some 30), none, .load false 1 (.t 29)⟩, ⟨(some 31), none, .idxS 1 (.t 26) (.t 30)⟩, ⟨(some 32), none, .load false 1 (.t 31)⟩, ⟨(some 33), none, .mv (.t 1)⟩, ⟨(some 34), none, .mv (.t 9)⟩, ⟨(some 35), none, .fieldA 1 (.t 6)⟩, ⟨(some 36), none, .idxA 5 1 (.t 35) (.t 34)⟩, ⟨(some 37), none, .load false 1 (.t 36)⟩, ⟨(some 38), none, .idxS 1 (.t 33) (.t 37)⟩, ⟨(some 39), none, .load false 1 (.t 38)⟩, ⟨(some 40), none, .bin .neq (.t 32) (.t 39)⟩])
  (.cond (.t 40) (.seq (.ops [⟨(some 4), none, .mv (.c (.bool false))⟩])
  .ret) .skip)))))
  (.ops [⟨(some 41), none, .bin .add (.t 18) (.c (.int .i64 1))⟩, ⟨(some 18), none, .mv (.t 41)⟩]))))
/- live [1, 10, 11, 12] -/
def k112_b1 : KC := (.seq (.ops [⟨(some 13), none, .bin .lss (.t 12) (.t 11)⟩])
  (.seq (.cond (.t 13) .skip (.exit 0))
  (.seq (.block 1 (.seq (.ops [⟨(some 14), none, .idxS 6 (.t 10) (.t 12)⟩, ⟨(some 15), none, .load true 6 (.t 14)⟩, ⟨(some 6), none, .alloc [.int .i64 0, .int .i64 0, .int .i64 0, .int .i64 0, .int .i64 0, .int .i64 0]⟩, ⟨none, none, .store 6 (.t 6) (.t 15)⟩])
  (.seq (.ops [⟨(some 16), none, .mv (.t 1)⟩, ⟨(some 17), none, .len false (.t 16)⟩, ⟨(some 18), none, .mv (.c (.int .i64 0))⟩])
  (.block 2 (.loop k112_b0)))))
  (.ops [⟨(some 42), none, .bin .add (.t 12) (.c (.int .i64 1))⟩, ⟨(some 12), none, .mv (.t 42)⟩]))))
def k112 : KC := (.seq (.ops [⟨(some 4), none, .mv (.c (.bool false))⟩])
  (.seq (.seq (.ops [⟨(some 10), none, .mv (.t 0)⟩, ⟨(some 11), none, .len false (.t 10)⟩, ⟨(some 12), none, .mv (.c (.int .i64 0))⟩])
  (.block 0 (.loop k112_b1)))
  (.seq (.ops [⟨(some 4), none, .mv (.c (.bool true))⟩])
  .ret)))
theorem e112 {args : List PV} {σ : Heap} {K : PV → Heap → Prop} (hl : args.length ≤ 43) (h : Wf σ → (∀ a ∈ args, PV.upto σ.length a) → vc (mkCfg Try.prog mixed [] 43 σ.length) k112 (FinK σ.length [.t 4] K) (argEnv 0 args) σ) : ACall Try.prog 112 args σ K :=
  ACall_enter (C := mkCfg Try.prog mixed [] 43 σ.length) (c := Try.f112.body.getD .skip) Try.func112 (by kernel_rfl) (by kernel_rfl) (by kernel_rfl) rfl hl (by kernel_rfl) (by kernel_rfl) h
/- spec.l10Invariant -/
/- live [0, 1, 5, 6, 7, 35, 36, 37, 38, 39, 40, 41, 42, 43, 44, 45, 46, 47, 48, 49, 50, 51, 52, 53, 54, 55] -/
def k108_b0 : KC := (.seq (.seq (.ops [⟨(some 20), none, .mv (.t 7)⟩, ⟨(some 21), none, .mv (.t 6)⟩, ⟨(some 22), none, .bin .lss (.t 20) (.t 21)⟩])
  (.cond (.t 22) .skip (.exit 4)))
  (.seq (.block 5 (.seq (.draw [⟨(some 25), none, .mv (.t 1)⟩, ⟨(some 26), none, .mv (.t 6)⟩, ⟨(some 27), none, .idxS 1 (.t 25) (.t 26)⟩, ⟨(some 28), none, .load false 1 (.t 27)⟩, ⟨(some 29), none, .mv (.t 1)⟩, ⟨(some 30), none, .mv (.t 7)⟩, ⟨(some 31), none, .idxS 1 (.t 29) (.t 30)⟩, ⟨(some 32), none, .load false 1 (.t 31)⟩, ⟨(some 33), none, .bin .eql (.t 28) (.t 32)⟩, ⟨(some 34), none, .mv (.t 33)⟩, ⟨(some 35), some (34, true), .mv (.t 1)⟩, ⟨(some 36), some (34, true), .mv (.t 0)⟩, ⟨(some 37), some (34, true), .mv (.t 5)⟩, ⟨(some 38), some (34, true), .mv (.t 6)⟩, ⟨(some 39), some (34, true), .idxS 6 (.t 36) (.t 37)⟩, ⟨(some 40), some (34, true), .fieldA 1 (.t 39)⟩, ⟨(some 41), some (34, true), .idxA 5 1 (.t 40) (.t 38)⟩, ⟨(some 42), some (34, true), .load false 1 (.t 41)⟩, ⟨(some 43), some (34, true), .idxS 1 (.t 35) (.t 42)⟩, ⟨(some 44), some (34, true), .load false 1 (.t 43)⟩, ⟨(some 45), some (34, true), .mv (.t 1)⟩, ⟨(some 46), some (34, true), .mv (.t 0)⟩, ⟨(some 47), some (34, true), .mv (.t 5)⟩, ⟨(some 48), some (34, true), .mv (.t 7)⟩, ⟨(some 49), some (34, true), .idxS 6 (.t 46) (.t 47)⟩, ⟨(some 50), some (34, true), .fieldA 1 (.t 49)⟩, ⟨(some 51), some (34, true), .idxA 5 1 (.t 50) (.t 48)⟩, ⟨(some 52), some (34, true), .load false 1 (.t 51)⟩, ⟨(some 53), some (34, true), .idxS 1 (.t 45) (.t 52)⟩, ⟨(some 54), some (34, true), .load false 1 (.t 53)⟩, ⟨(some 55), some (34, true), .bin .neq (.t 44) (.t 54)⟩, ⟨(some 56), none, .pick (.t 34) (.t 55) (.c (.bool false))⟩])
  (.cond (.t 56) (.seq (.ops [⟨(some 4), none, .mv (.c (.bool false))⟩])
  .ret) .skip)))
  (.ops [⟨(some 23), none, .mv (.t 7)⟩, ⟨(some 24), none, .bin .add (.t 23) (.c (.int .i64 1))⟩, ⟨(some 7), none, .mv (.t 24)⟩])))
/- live [0, 1, 5, 6, 35, 36, 37, 38, 39, 40, 41, 42, 43, 44, 45, 46, 47, 48, 49, 50, 51, 52, 53, 54, 55] -/
def k108_b1 : KC := (.seq (.seq (.ops [⟨(some 14), none, .mv (.t 6)⟩, ⟨(some 15), none, .mv (.t 1)⟩, ⟨(some 16), none, .len false (.t 15)⟩, ⟨(some 17), none, .bin .lss (.t 14) (.t 16)⟩])
  (.cond (.t 17) .skip (.exit 2)))
  (.seq (.block 3 (.seq (.ops [⟨(some 7), none, .mv (.c (.int .i64 0))⟩])
  (.block 4 (.loop k108_b0))))
  (.ops [⟨(some 18), none, .mv (.t 6)⟩, ⟨(some 19), none, .bin .add (.t 18) (.c (.int .i64 1))⟩, ⟨(some 6), none, .mv (.t 19)⟩])))
/- live [0, 1, 5, 35, 36, 37, 38, 39, 40, 41, 42, 43, 44, 45, 46, 47, 48, 49, 50, 51, 52, 53, 54, 55] -/
def k108_b2 : KC := (.seq (.seq (.ops [⟨(some 8), none, .mv (.t 5)⟩, ⟨(some 9), none, .mv (.t 0)⟩, ⟨(some 10), none, .len false (.t 9)⟩, ⟨(some 11), none, .bin .lss (.t 8) (.t 10)⟩])
  (.cond (.t 11) .skip (.exit 0)))
  (.seq (.block 1 (.seq (.ops [⟨(some 6), none, .mv (.c (.int .i64 0))⟩])
  (.block 2 (.loop k108_b1))))
  (.ops [⟨(some 12), none, .mv (.t 5)⟩, ⟨(some 13), none, .bin .add (.t 12) (.c (.int .i64 1))⟩, ⟨(some 5), none, .mv (.t 13)⟩])))
def k108 : KC := (.seq (.ops [⟨(some 4), none, .mv (.c (.bool false))⟩])
  (.seq (.seq (.ops [⟨(some 5), none, .mv (.c (.int .i64 0))⟩])
  (.block 0 (.loop k108_b2)))
  (.seq (.ops [⟨(some 4), none, .mv (.c (.bool true))⟩])
  .ret)))
theorem e108 {args : List PV} {σ : Heap} {K : PV → Heap → Prop} (hl : args.length ≤ 57) (h : Wf σ → (∀ a ∈ args, PV.upto σ.length a) → vc (mkCfg Try.prog mixed [] 57 σ.length) k108 (FinK σ.length [.t 4] K) (argEnv 0 args) σ) : ACall Try.prog 108 args σ K :=
  ACall_enter (C := mkCfg Try.prog mixed [] 57 σ.length) (c := Try.f108.body.getD .skip) Try.func108 (by kernel_rfl) (by kernel_rfl) (by kernel_rfl) rfl hl (by kernel_rfl) (by kernel_rfl) h
/- slices.Index[[]int64,int64] -/
/- live [0, 1, 7, 8] -/
def k138_b0 : KC := (.seq (.ops [⟨(some 9), none, .bin .lss (.t 8) (.t 7)⟩])
  (.seq (.cond (.t 9) .skip (.exit 0))
  (.seq (.block 1 (.seq (.ops [⟨(some 10), none, .mv (.t 8)⟩, ⟨(some 5), none, .mv (.t 10)⟩])
  (.seq (.ops [⟨(some 11), none, .mv (.t 1)⟩, ⟨(some 12), none, .mv (.t 0)⟩, ⟨(some 13), none, .mv (.t 5)⟩, ⟨(some 14), none, .idxS 1 (.t 12) (.t 13)⟩, ⟨(some 15), none, .load false 1 (.t 14)⟩, ⟨(some 16), none, .bin .eql (.t 11) (.t 15)⟩])
  (.cond (.t 16) (.seq (.ops [⟨(some 17), none, .mv (.t 5)⟩, ⟨(some 4), none, .mv (.t 17)⟩])
  .ret) .skip))))
  (.ops [⟨(some 18), none, .bin .add (.t 8) (.c (.int .i64 1))⟩, ⟨(some 8), none, .mv (.t 18)⟩]))))
def k138 : KC := (.seq (.ops [⟨(some 4), none, .mv (.c (.int .i64 0))⟩])
  (.seq (.seq (.ops [⟨(some 6), none, .mv (.t 0)⟩, ⟨(some 7), none, .len false (.t 6)⟩, ⟨(some 8), none, .mv (.c (.int .i64 0))⟩])
  (.block 0 (.loop k138_b0)))
  (.seq (.ops [⟨(some 4), none, .mv (.c (.int .i64 (-1)))⟩])
  .ret)))
theorem e138 {args : List PV} {σ : Heap} {K : PV → Heap → Prop} (hl : args.length ≤ 19) (h : Wf σ → (∀ a ∈ args, PV.upto σ.length a) → vc (mkCfg Try.prog mixed [] 19 σ.length) k138 (FinK σ.length [.t 4] K) (argEnv 0 args) σ) : ACall Try.prog 138 args σ K :=
  ACall_enter (C := mkCfg Try.prog mixed [] 19 σ.length) (c := Try.f138.body.getD .skip) Try.func138 (by kernel_rfl) (by kernel_rfl) (by kernel_rfl) rfl hl (by kernel_rfl) (by kernel_rfl) h
end Go.Proofs.Ytpepbomifjbgnaa
namespace Go.Proofs.Ytpepbomifjbgnaa
open Go.Kv
set_option linter.unusedVariables false
set_option linter.unusedSimpArgs false
attribute [local irreducible] ACall PCall KL
/-- Numbers of classes, of which v is the least free one. -/
def clOk : List Int → Int → Bool
  | [], _ => true
  | k :: r, v => decide (0 ≤ k ∧ k ≤ v) && clOk r (if k = v then v + 1 else v)
theorem clOk_step {l : List Int} {x : Nat} (h : x < l.length) (v : Int) : clOk (l.drop x) v = (decide (0 ≤ l[x] ∧ l[x] ≤ v) && clOk (l.drop (x + 1)) (if l[x] = v then v + 1 else v)) := by
  rw [List.drop_eq_getElem_cons h]; rfl
theorem p138 (l : List Int) (k : Int) (hl : l.length ≤ 1048576) : Pure Try.prog 138 [.list (ints l), .int .i64 k] (.int .i64 (idx (fun y => decide (k = y)) l)) := by
  refine e138 (by simp) fun _ _ => ?_
  simp only [k138, argEnv, take6, List.drop_zero, Int.cast_ofNat_Int, go_sem, ↓reduceIte, Nat.reduceEqDiff, Nat.reduceAdd, Nat.reduceMul, Nat.reduceLeDiff, Nat.reduceLT, Int.reduceLE, Int.reduceLT, reduceCtorEq]
  refine KL_ind k138_b0.eq_1 (fun x : Nat => [(0, .list (ints l)), (1, .int .i64 k), (7, .int .i64 l.length), (8, .int .i64 x)]) (fun _ => []) (fun x => x ≤ l.length ∧ (l.take x).any (fun y => decide (k = y)) = false) (fun x => l.length - x) [0, 1, 7, 8] 0 (by rfl) rfl ⟨Nat.zero_le _, by simp⟩ fun x ⟨hx, hall⟩ ih => ?_
  try simp only [take6, List.drop_zero, Int.cast_ofNat_Int, go_sem, ↓reduceIte, Nat.reduceEqDiff, Nat.reduceAdd, Nat.reduceMul, Nat.reduceLeDiff, Nat.reduceLT, Int.reduceLE, Int.reduceLT, reduceCtorEq]
  refine ⟨fun h1 => ⟨by omega, fun h2 => ?_⟩, fun h1 => ?_⟩
  · rw [getD_eq h2]
    refine ⟨fun h3 => ?_, fun h3 => ⟨by omega, ?_⟩⟩
    · exact Kv.Fin.still ⟨by rw [idx_some h2 hall (by simpa using h3)], rfl⟩
    · refine ih (x + 1) ⟨by omega, ?_⟩ (by omega) _ _ (by rfl) rfl
      rw [any_take_succ _ h2, hall, decide_eq_false h3]; rfl
  · obtain rfl : x = l.length := by omega
    rw [List.take_length] at hall
    exact Kv.Fin.still ⟨by rw [idx_none hall], rfl⟩
theorem idx_of {l : List Int} {p : Nat} (h : p < l.length) : ∃ q : Nat, idx (fun y => decide (l.getD p 0 = y)) l = q ∧ q < l.length ∧ l.getD q 0 = l.getD p 0 := by
  have ha : l.any (fun y => decide (l.getD p 0 = y)) = true := by
    rw [List.any_eq_true]
    exact ⟨l[p], List.getElem_mem h, by rw [getD_eq h]; simp⟩
  obtain ⟨q, hq, h1, h2⟩ := any_split ha
  refine ⟨q, idx_some hq h1 h2, hq, ?_⟩
  rw [getD_eq hq]
  exact (of_decide_eq_true h2).symm
/-- What a right list of maps is. -/
theorem lcode_maps {a : List (List Int)} (h6 : ∀ r ∈ a, r.length = 6) (h : lcode a [] = 0) : ∃ (fs : List (List Nat)) (n : Nat), a = fs.map mp ∧ (∀ f ∈ fs, Ok f n) ∧ 1 ≤ fs.length ∧ fs.length ≤ 6 ∧ (a.getD 0 []).getD 0 0 = n ∧ 1 ≤ n ∧ n ≤ 5 := by
  unfold lcode at h
  rw [List.append_nil] at h
  split at h
  · omega
  rename_i h1
  split at h
  · omega
  rename_i h2
  split at h
  · omega
  rename_i h3
  simp only [Bool.not_eq_false, List.all_eq_true, decide_eq_true_eq] at h1 h3
  have h2' : 1 ≤ a.length ∧ a.length ≤ 6 := by omega
  have h0 : 0 < a.length := by omega
  obtain ⟨f0, n, hf0, e0⟩ := isM_ok (h6 _ (List.getElem_mem h0)) (h1 _ (List.getElem_mem h0))
  have hn : (a.getD 0 []).getD 0 0 = n := by rw [getD_eq h0, e0, mp_get0, hf0.len]
  have key : ∀ r ∈ a, r = mp (um r) ∧ Ok (um r) n := fun r hr => by
    obtain ⟨f, n', hf, e⟩ := isM_ok (h6 r hr) (h1 r hr)
    have h4 := h3 r hr
    rw [hn, e, mp_get0, hf.len] at h4
    obtain rfl : n' = n := by omega
    rw [e, um_mp]
    exact ⟨rfl, hf⟩
  refine ⟨a.map um, n, ?_, ?_, by simpa using h2'.1, by simpa using h2'.2, hn, hf0.pos, hf0.le⟩
  · rw [List.map_map]
    conv => lhs; rw [← List.map_id a]
    exact List.map_congr_left fun r hr => by simpa using (key r hr).1
  · intro f hf
    obtain ⟨r, hr, rfl⟩ := List.mem_map.1 hf
    exact (key r hr).2
/-- A map keeps a partition. -/
def Iv (P : List Int) (f : List Nat) : Prop := ∀ a b, a < P.length → b < P.length → P.getD a 0 = P.getD b 0 → P.getD (f.getD a 0) 0 = P.getD (f.getD b 0) 0
noncomputable def iv (fs : List (List Nat)) (P : List Int) : Bool := @decide (∀ f ∈ fs, Iv P f) (Classical.propDecidable _)
theorem iv_true {fs : List (List Nat)} {P : List Int} (h : ∀ f ∈ fs, Iv P f) : iv fs P = true := by
  unfold iv; exact @decide_eq_true _ (Classical.propDecidable _) h
theorem iv_all {fs : List (List Nat)} {P : List Int} (h : iv fs P = true) : ∀ f ∈ fs, Iv P f := by
  unfold iv at h; exact @of_decide_eq_true _ (Classical.propDecidable _) h
theorem iv_false {fs : List (List Nat)} {P : List Int} {x : Nat} (h : x < fs.length) (h' : ¬ Iv P fs[x]) : iv fs P = false := by
  unfold iv; exact @decide_eq_false _ (Classical.propDecidable _) fun g => h' (g _ (List.getElem_mem h))
theorem take_mem_succ {fs : List (List Nat)} {x : Nat} {Q : List Nat → Prop} (h : x < fs.length) (h1 : ∀ f ∈ fs.take x, Q f) (h2 : Q fs[x]) : ∀ f ∈ fs.take (x + 1), Q f := fun f hf => by
  rw [List.take_succ_eq_append_getElem h, List.mem_append, List.mem_singleton] at hf
  rcases hf with hf | rfl
  · exact h1 f hf
  · exact h2
theorem map_getD {fs : List (List Nat)} {x : Nat} (h : x < fs.length) : (fs.map mp).getD x [] = mp fs[x] := by simp [List.getD_eq_getElem?_getD, h]
theorem p112 (fs : List (List Nat)) (n : Nat) (P : List Int) (hP : P.length = n) (h5 : n ≤ 5) (hf : ∀ f ∈ fs, Ok f n) (hl : fs.length ≤ 1048576) : Pure Try.prog 112 [.list (aggs (fs.map mp)), .list (ints P)] (.bool (iv fs P)) := by
  subst hP
  refine e112 (by simp) fun _ _ => ?_
  simp only [k112, argEnv, take6, List.drop_zero, Int.cast_ofNat_Int, go_sem, ↓reduceIte, Nat.reduceEqDiff, Nat.reduceAdd, Nat.reduceMul, Nat.reduceLeDiff, Nat.reduceLT, Int.reduceLE, Int.reduceLT, reduceCtorEq]
  refine KL_indD k112_b1.eq_1 (fun x : Nat => [(1, .list (ints P)), (10, .list (aggs (fs.map mp))), (11, .int .i64 fs.length), (12, .int .i64 x)]) (fun _ => []) (fun x => x ≤ fs.length ∧ ∀ f ∈ fs.take x, Iv P f) (fun x => fs.length - x) [1, 10, 11, 12] 0 (by simp [keep]) ⟨[], rfl⟩ ⟨Nat.zero_le _, by simp⟩ (fun x hx => ?_) fun x ⟨hx, hall⟩ ih => ?_
  · exact ⟨Nat.zero_le _, Env.undr_upto (by simp [Env.undr, PV.undr, undrX_ints, undrX_aggs]), .nil _⟩
  try simp only [List.length_map, take6, List.drop_zero, Int.cast_ofNat_Int, go_sem, ↓reduceIte, Nat.reduceEqDiff, Nat.reduceAdd, Nat.reduceMul, Nat.reduceLeDiff, Nat.reduceLT, Int.reduceLE, Int.reduceLT, reduceCtorEq]
  refine ⟨fun h1 => ⟨by omega, fun h2 => ?_⟩, fun h1 => ?_⟩
  · have hk := hf _ (List.getElem_mem h2)
    have h6 := hk.mp_len
    rw [map_getD h2]
    try simp only [h6, take6, List.drop_zero, Int.cast_ofNat_Int, go_sem, ↓reduceIte, Nat.reduceEqDiff, Nat.reduceAdd, Nat.reduceMul, Nat.reduceLeDiff, Nat.reduceLT, Int.reduceLE, Int.reduceLT, reduceCtorEq]
    refine KL_ind k112_b0.eq_1 (fun p : Nat => [(1, .list (ints P)), (6, .ptr 0 0), (10, .list (aggs (fs.map mp))), (11, .int .i64 fs.length), (12, .int .i64 x), (16, .list (ints P)), (17, .int .i64 P.length), (18, .int .i64 p)]) (fun _ => [.box (ints (mp fs[x]))]) (fun p => p ≤ P.length ∧ ∀ a, a < p → ∀ q : Nat, idx (fun y => decide (P.getD a 0 = y)) P = q → P.getD (fs[x].getD a 0) 0 = P.getD (fs[x].getD q 0) 0) (fun p => P.length - p) [1, 6, 10, 11, 12, 16, 17, 18] 0 (by rfl) rfl ⟨Nat.zero_le _, fun a ha => by omega⟩ fun p ⟨hp, hpa⟩ ihp => ?_
    try simp only [take6, List.drop_zero, Int.cast_ofNat_Int, go_sem, ↓reduceIte, Nat.reduceEqDiff, Nat.reduceAdd, Nat.reduceMul, Nat.reduceLeDiff, Nat.reduceLT, Int.reduceLE, Int.reduceLT, reduceCtorEq]
    refine ⟨fun h3 => ⟨by omega, fun h4 => ?_⟩, fun h3 => ?_⟩
    · refine (p138 P _ (by omega)).go ?_
      obtain ⟨q, hq, hql, hqe⟩ := idx_of h4
      rw [hq]
      have hg1 := hk.get' p
      have hg2 := hk.get' q
      try simp only [h6, hg1, hg2, take6, List.drop_zero, Int.cast_ofNat_Int, go_sem, ↓reduceIte, Nat.reduceEqDiff, Nat.reduceAdd, Nat.reduceMul, Nat.reduceLeDiff, Nat.reduceLT, Int.reduceLE, Int.reduceLT, reduceCtorEq]
      refine ⟨by omega, by omega, fun _ => ⟨by omega, by omega, by omega, fun _ => ⟨by omega, fun h7 => ?_, fun h7 => ⟨by omega, ?_⟩⟩⟩⟩
      · exact Kv.Fin.still ⟨by rw [iv_false h2 fun h => h7 (h p q h4 hql hqe.symm)], rfl⟩
      · refine ihp (p + 1) ⟨by omega, fun a ha q' hq' => ?_⟩ (by omega) _ _ (by rfl) rfl
        by_cases e : a = p
        · subst e
          rw [hq] at hq'
          obtain rfl : q = q' := by omega
          exact h7
        · exact hpa a (by omega) q' hq'
    · obtain rfl : p = P.length := by omega
      refine ⟨by omega, ?_⟩
      refine ih (x + 1) ⟨by omega, take_mem_succ h2 hall fun a b ha hb he => ?_⟩ (by omega) _ _ (by simp [keep]) ⟨[_], rfl⟩
      obtain ⟨q, hq, _, _⟩ := idx_of ha
      rw [hpa a ha q hq, hpa b hb q (by rw [← he]; exact hq)]
  · obtain rfl : x = fs.length := by omega
    rw [List.take_length] at hall
    exact Kv.Fin.still ⟨by rw [iv_true hall], rfl⟩
theorem p108 (fs : List (List Nat)) (n : Nat) (P : List Int) (hP : P.length = n) (h5 : n ≤ 5) (hf : ∀ f ∈ fs, Ok f n) (hl : fs.length ≤ 1048576) : Pure Try.prog 108 [.list (aggs (fs.map mp)), .list (ints P)] (.bool (iv fs P)) := by
  subst hP
  refine e108 (by simp) fun _ _ => ?_
  simp only [k108, argEnv, take6, List.drop_zero, Int.cast_ofNat_Int, go_sem, ↓reduceIte, Nat.reduceEqDiff, Nat.reduceAdd, Nat.reduceMul, Nat.reduceLeDiff, Nat.reduceLT, Int.reduceLE, Int.reduceLT, reduceCtorEq]
  refine KL_ind k108_b2.eq_1 (fun x : Nat => [(0, .list (aggs (fs.map mp))), (1, .list (ints P)), (5, .int .i64 x)]) (fun _ => []) (fun x => x ≤ fs.length ∧ ∀ f ∈ fs.take x, Iv P f) (fun x => fs.length - x) [0, 1, 5] 0 (by simp [keep]) rfl ⟨Nat.zero_le _, by simp⟩ fun x ⟨hx, hall⟩ ih => ?_
  try simp only [List.length_map, take6, List.drop_zero, Int.cast_ofNat_Int, go_sem, ↓reduceIte, Nat.reduceEqDiff, Nat.reduceAdd, Nat.reduceMul, Nat.reduceLeDiff, Nat.reduceLT, Int.reduceLE, Int.reduceLT, reduceCtorEq]
  refine ⟨fun h1 => ?_, fun h1 => ?_⟩
  · have h2 : x < fs.length := by omega
    have hk := hf _ (List.getElem_mem h2)
    have h6 := hk.mp_len
    refine KL_ind k108_b1.eq_1 (fun a : Nat => [(0, .list (aggs (fs.map mp))), (1, .list (ints P)), (5, .int .i64 x), (6, .int .i64 a)]) (fun _ => []) (fun a => a ≤ P.length ∧ ∀ c d, c < a → d < c → P.getD c 0 = P.getD d 0 → P.getD (fs[x].getD c 0) 0 = P.getD (fs[x].getD d 0) 0) (fun a => P.length - a) [0, 1, 5, 6] 0 (by simp [keep]) rfl ⟨Nat.zero_le _, fun c d hc => by omega⟩ fun a ⟨ha, hac⟩ iha => ?_
    try simp only [take6, List.drop_zero, Int.cast_ofNat_Int, go_sem, ↓reduceIte, Nat.reduceEqDiff, Nat.reduceAdd, Nat.reduceMul, Nat.reduceLeDiff, Nat.reduceLT, Int.reduceLE, Int.reduceLT, reduceCtorEq]
    refine ⟨fun h3 => ?_, fun h3 => ?_⟩
    · refine KL_ind k108_b0.eq_1 (fun b : Nat => [(0, .list (aggs (fs.map mp))), (1, .list (ints P)), (5, .int .i64 x), (6, .int .i64 a), (7, .int .i64 b)]) (fun _ => []) (fun b => b ≤ a ∧ ∀ d, d < b → P.getD a 0 = P.getD d 0 → P.getD (fs[x].getD a 0) 0 = P.getD (fs[x].getD d 0) 0) (fun b => a - b) [0, 1, 5, 6, 7] 0 (by simp [keep]) rfl ⟨Nat.zero_le _, fun d hd => by omega⟩ fun b ⟨hb, hbd⟩ ihb => ?_
      have hg1 := hk.get' a
      have hg2 := hk.get' b
      have h4 : a < P.length := by omega
      try simp only [h6, hg1, hg2, map_getD h2, List.length_map, take6, List.drop_zero, Int.cast_ofNat_Int, go_sem, ↓reduceIte, Nat.reduceEqDiff, Nat.reduceAdd, Nat.reduceMul, Nat.reduceLeDiff, Nat.reduceLT, Int.reduceLE, Int.reduceLT, reduceCtorEq]
      have hit : (P.getD a 0 = P.getD b 0 → P.getD (fs[x].getD a 0) 0 = P.getD (fs[x].getD b 0) 0) → ∀ d, d < b + 1 → P.getD a 0 = P.getD d 0 → P.getD (fs[x].getD a 0) 0 = P.getD (fs[x].getD d 0) 0 := fun h d hd => by
        by_cases e : d = b
        · rw [e]; exact h
        · exact hbd d (by omega)
      refine ⟨fun h5 => ⟨by omega, fun _ => ⟨by omega, fun h8 => ⟨fun h9 => ⟨by omega, fun _ => ⟨by omega, by omega, fun _ => ⟨by omega, by omega, fun _ => ⟨by omega, by omega, fun _ => ⟨by omega, fun h10 => ?_, fun h10 => ⟨by omega, ?_⟩⟩⟩⟩⟩⟩, fun h9 => ⟨by omega, ?_⟩⟩⟩⟩, fun h5 => ⟨by omega, ?_⟩⟩
      · exact Kv.Fin.still ⟨by rw [iv_false h2 fun h => h10 (h a b h4 h8 h9)], rfl⟩
      · exact ihb (b + 1) ⟨by omega, hit fun _ => h10⟩ (by omega) _ _ (by simp [keep]) rfl
      · exact ihb (b + 1) ⟨by omega, hit fun h => absurd h h9⟩ (by omega) _ _ (by simp [keep]) rfl
      · obtain rfl : b = a := by omega
        refine iha (b + 1) ⟨by omega, fun c d hc hd he => ?_⟩ (by omega) _ _ (by simp [keep]) rfl
        by_cases e : c = b
        · subst e; exact hbd d hd he
        · exact hac c d (by omega) hd he
    · obtain rfl : a = P.length := by omega
      refine ⟨by omega, ?_⟩
      refine ih (x + 1) ⟨by omega, take_mem_succ h2 hall fun c d hc hd he => ?_⟩ (by omega) _ _ (by simp [keep]) rfl
      rcases Nat.lt_trichotomy c d with h | h | h
      · exact (hac d c hd h he.symm).symm
      · rw [h]
      · exact hac c d hc h he
  · obtain rfl : x = fs.length := by omega
    rw [List.take_length] at hall
    exact Kv.Fin.still ⟨by rw [iv_true hall], rfl⟩
/-- What comes to pass: the code, or whether. -/
noncomputable def ivp (a : List (List Int)) (P : List Int) : Bool × Int :=
  if lcode a [] ≠ 0 then (false, lcode a []) else if (clOk P 0 && decide ((P.length : Int) = (a.getD 0 []).getD 0 0)) = false then (false, 2) else (iv (a.map um) P, 0)
theorem map_um (fs : List (List Nat)) : (fs.map mp).map um = fs := by
  rw [List.map_map]
  conv => rhs; rw [← List.map_id fs]
  exact List.map_congr_left fun f _ => um_mp f
/-- The code of a list and a partition. -/
def pgc (a : List (List Int)) (P : List Int) : Int :=
  if lcode a [] ≠ 0 then lcode a [] else if (clOk P 0 && decide ((P.length : Int) = (a.getD 0 []).getD 0 0)) = false then 2 else 0
theorem pgc_zero {a : List (List Int)} {P : List Int} (h : pgc a P = 0) : lcode a [] = 0 ∧ (clOk P 0 && decide ((P.length : Int) = (a.getD 0 []).getD 0 0)) = true := by
  unfold pgc at h
  by_cases h1 : lcode a [] = 0
  · rw [if_neg (by simp [h1])] at h
    refine ⟨h1, ?_⟩
    cases h2 : (clOk P 0 && decide ((P.length : Int) = (a.getD 0 []).getD 0 0)) with
    | true => rfl
    | false => rw [h2] at h; simp at h
  · rw [if_pos h1] at h; exact absurd h h1
end Go.Proofs.Ytpepbomifjbgnaa
end
section
/- Marking and holding of lists of maps. -/
namespace Go.Proofs.Ytpepbomifjbgnaa
open Go.Kv
set_option maxRecDepth 100000
/- laws.markMapS -/
/- live [0, 1, 5, 6] -/
def k26_b0 : KC := (.seq (.seq (.ops [⟨(some 20), none, .mv (.t 6)⟩, ⟨(some 21), none, .bin .lss (.t 20) (.c (.int .i64 5))⟩])
  (.cond (.t 21) .skip (.exit 2)))
  (.seq (.block 3 (.seq (.ops [⟨(some 24), none, .mv (.t 0)⟩, ⟨(some 25), none, .mv (.t 5)⟩, ⟨(some 26), none, .mv (.t 6)⟩, ⟨(some 27), none, .mv (.t 1)⟩, ⟨(some 28), none, .idxS 6 (.t 24) (.t 25)⟩, ⟨(some 29), none, .fieldA 1 (.t 28)⟩, ⟨(some 30), none, .idxA 5 1 (.t 29) (.t 26)⟩, ⟨none, none, .store 1 (.t 30) (.t 27)⟩])
  (.ops [⟨(some 31), none, .mv (.t 1)⟩, ⟨(some 32), none, .bin .add (.t 31) (.c (.int .i64 1))⟩, ⟨(some 1), none, .mv (.t 32)⟩])))
  (.ops [⟨(some 22), none, .mv (.t 6)⟩, ⟨(some 23), none, .bin .add (.t 22) (.c (.int .i64 1))⟩, ⟨(some 6), none, .mv (.t 23)⟩])))
/- live [0, 1, 5] -/
def k26_b1 : KC := (.seq (.seq (.ops [⟨(some 7), none, .mv (.t 5)⟩, ⟨(some 8), none, .mv (.t 0)⟩, ⟨(some 9), none, .len false (.t 8)⟩, ⟨(some 10), none, .bin .lss (.t 7) (.t 9)⟩])
  (.cond (.t 10) .skip (.exit 0)))
  (.seq (.block 1 (.seq (.ops [⟨(some 13), none, .mv (.t 0)⟩, ⟨(some 14), none, .mv (.t 5)⟩, ⟨(some 15), none, .mv (.t 1)⟩, ⟨(some 16), none, .idxS 6 (.t 13) (.t 14)⟩, ⟨(some 17), none, .fieldA 0 (.t 16)⟩, ⟨none, none, .store 1 (.t 17) (.t 15)⟩])
  (.seq (.ops [⟨(some 18), none, .mv (.t 1)⟩, ⟨(some 19), none, .bin .add (.t 18) (.c (.int .i64 1))⟩, ⟨(some 1), none, .mv (.t 19)⟩])
  (.seq (.ops [⟨(some 6), none, .mv (.c (.int .i64 0))⟩])
  (.block 2 (.loop k26_b0))))))
  (.ops [⟨(some 11), none, .mv (.t 5)⟩, ⟨(some 12), none, .bin .add (.t 11) (.c (.int .i64 1))⟩, ⟨(some 5), none, .mv (.t 12)⟩])))
def k26 : KC := (.seq (.ops [⟨(some 4), none, .mv (.c (.int .i64 0))⟩])
  (.seq (.seq (.ops [⟨(some 5), none, .mv (.c (.int .i64 0))⟩])
  (.block 0 (.loop k26_b1)))
  (.seq (.ops [⟨(some 33), none, .mv (.t 1)⟩, ⟨(some 4), none, .mv (.t 33)⟩])
  .ret)))
theorem e26 {args : List PV} {σ : Heap} {K : PV → Heap → Prop} (hl : args.length ≤ 34) (h : Wf σ → (∀ a ∈ args, PV.upto σ.length a) → vc (mkCfg Try.prog mixed [] 34 σ.length) k26 (FinK σ.length [.t 4] K) (argEnv 0 args) σ) : ACall Try.prog 26 args σ K :=
  ACall_enter (C := mkCfg Try.prog mixed [] 34 σ.length) (c := Try.f26.body.getD .skip) Try.func26 (by kernel_rfl) (by kernel_rfl) (by kernel_rfl) rfl hl (by kernel_rfl) (by kernel_rfl) h
end Go.Proofs.Ytpepbomifjbgnaa
namespace Go.Proofs.Ytpepbomifjbgnaa
open Go.Kv
set_option linter.unusedVariables false
set_option linter.unusedSimpArgs false
attribute [local irreducible] ACall PCall KL
/-- Maps whose numbers are those from k on. -/
def seqA (k : Int) (n : Nat) : List (List Int) := (List.range n).map fun i => seqI (k + 6 * (i : Nat)) 6
@[simp] theorem seqA_length (k : Int) (n : Nat) : (seqA k n).length = n := by simp [seqA]
theorem seqA_succ (k : Int) (n : Nat) : seqA k (n + 1) = seqA k n ++ [seqI (k + 6 * n) 6] := by simp [seqA, List.range_succ]
theorem seqA_mem {k : Int} {n : Nat} : ∀ r ∈ seqA k n, r.length = 6 := fun r hr => by
  simp only [seqA, List.mem_map] at hr
  obtain ⟨i, _, rfl⟩ := hr
  simp
theorem seqA_getD (k : Int) {n i : Nat} (h : i < n) : (seqA k n).getD i [] = seqI (k + 6 * i) 6 := by simp [seqA, List.getD_eq_getElem?_getD, h]
/-- The first x maps are marked. -/
def mixA (k : Int) (l : List (List Int)) (x : Nat) : List (List Int) := seqA k x ++ l.drop x
theorem mixA_length (k : Int) {l : List (List Int)} {x : Nat} (h : x ≤ l.length) : (mixA k l x).length = l.length := by simp [mixA]; omega
theorem mixA_getD (k : Int) {l : List (List Int)} {x : Nat} (h : x < l.length) (post : List (List Int)) : (mixA k l x ++ post).getD x [] = l.getD x [] := by
  simp only [mixA, List.append_assoc]
  rw [List.getD_eq_getElem?_getD, List.getElem?_append_right (by simp), seqA_length, Nat.sub_self, List.drop_eq_getElem_cons h, List.getD_eq_getElem?_getD, List.getElem?_eq_getElem h]
  rfl
theorem mixA_set (k : Int) {l : List (List Int)} {x : Nat} (h : x < l.length) (post : List (List Int)) : (mixA k l x ++ post).set x (seqI (k + 6 * x) 6) = mixA k l (x + 1) ++ post := by
  simp only [mixA, List.append_assoc]
  rw [List.set_append_right _ _ (by simp), seqA_length, Nat.sub_self, List.drop_eq_getElem_cons h, seqA_succ, List.append_assoc]
  rfl
/-- The first j numbers of a map are marked. -/
def mixM (k : Int) (m : List Int) (j : Nat) : List Int := seqI k j ++ m.drop j
theorem mixM_length (k : Int) {m : List Int} {j : Nat} (h : j ≤ m.length) : (mixM k m j).length = m.length := by simp [mixM]; omega
theorem p26 (σ : Heap) (id ver : Nat) (e : TypeId) (l post : List (List Int)) (k : Int) (hid : σ[id]? = some (.arr ver e 6 (aggs (l ++ post)))) (hl6 : ∀ r ∈ l, r.length = 6) (hk : 0 ≤ k ∧ k ≤ 4294967296) (hl : l.length ≤ 1048576) {K : PV → Heap → Prop} (hK : K (.int .i64 (k + 6 * l.length)) (σ.set id (.arr ver e 6 (aggs (seqA k l.length ++ post))))) :
    ACall Try.prog 26 [.ref id ver 0 l.length, .int .i64 k] σ K := by
  have hlt := (List.getElem?_eq_some_iff.1 hid).1
  have hself : ∀ o, (σ.set id o)[id]? = some o := fun o => List.getElem?_set_self hlt
  have hset : ∀ o o', (σ.set id o).set id o' = σ.set id o' := fun o o' => List.set_set ..
  refine e26 (by simp) fun _ _ => ?_
  simp only [k26, argEnv, take6, List.drop_zero, Int.cast_ofNat_Int, go_sem, ↓reduceIte, Nat.reduceEqDiff, Nat.reduceAdd, Nat.reduceMul, Nat.reduceLeDiff, Nat.reduceLT, Int.reduceLE, Int.reduceLT, reduceCtorEq]
  refine KL_ind k26_b1.eq_1 (fun x : Nat => [(5, .int .i64 x), (0, .ref id ver 0 l.length), (1, .int .i64 (k + 6 * x))]) (fun x => σ.set id (.arr ver e 6 (aggs (mixA k l x ++ post)))) (fun x => x ≤ l.length) (fun x => l.length - x) [5, 0, 1] 0 (by simp [keep]) ?_ (Nat.zero_le _) fun x hi ih => ?_
  · apply List.ext_getElem?; intro j
    by_cases e1 : id = j
    · subst e1; rw [hself, hid]; simp [mixA, seqA]
    · rw [List.getElem?_set_ne e1]
  have hml := mixA_length k hi
  try simp only [hself, hset, hml, take6, List.drop_zero, Int.cast_ofNat_Int, go_sem, ↓reduceIte, Nat.reduceEqDiff, Nat.reduceAdd, Nat.reduceMul, Nat.reduceLeDiff, Nat.reduceLT, Int.reduceLE, Int.reduceLT, reduceCtorEq]
  refine ⟨fun h1 => ?_, fun h1 => ?_⟩
  · have hx : x < l.length := by omega
    have h6 : (l.getD x []).length = 6 := by rw [getD_eq hx]; exact hl6 _ (List.getElem_mem hx)
    rw [mixA_getD k hx]
    try simp only [h6, take6, List.drop_zero, Int.cast_ofNat_Int, go_sem, ↓reduceIte, Nat.reduceEqDiff, Nat.reduceAdd, Nat.reduceMul, Nat.reduceLeDiff, Nat.reduceLT, Int.reduceLE, Int.reduceLT, reduceCtorEq]
    repeat' (first | refine And.intro ?_ ?_ | intro _)
    all_goals (try omega)
    have hxl : x < (mixA k l x ++ post).length := by rw [List.length_append, hml]; omega
    have hget : ∀ m : List Int, ((mixA k l x ++ post).set x m).getD x [] = m := fun m => by
      rw [List.getD_eq_getElem?_getD, List.getElem?_set_self hxl]; rfl
    have hseti : ∀ m m' : List Int, ((mixA k l x ++ post).set x m).set x m' = (mixA k l x ++ post).set x m' := fun m m' => List.set_set ..
    have hm0 : (l.getD x []).set 0 (k + 6 * (x : Int)) = mixM (k + 6 * x) (l.getD x []) 1 := by
      have := mark_step (k + 6 * (x : Int)) (l := l.getD x []) (x := 0) (by omega)
      simp only [mixM, Nat.zero_add] at this ⊢
      rw [← this]; simp [seqI]
    generalize hm : l.getD x [] = m at *
    rw [hm0]
    refine KL_ind k26_b0.eq_1 (fun j : Nat => [(5, .int .i64 x), (6, .int .i64 j), (0, .ref id ver 0 l.length), (1, .int .i64 (k + 6 * x + 1 + j))]) (fun j => σ.set id (.arr ver e 6 (aggs ((mixA k l x ++ post).set x (mixM (k + 6 * x) m (j + 1)))))) (fun j => j ≤ 5) (fun j => 5 - j) [5, 6, 0, 1] 0 (by simp [keep]) rfl (Nat.zero_le _) fun j hj ihj => ?_
    have hmm : (mixM (k + 6 * (x : Int)) m (j + 1)).length = 6 := by rw [mixM_length _ (by omega)]; exact h6
    try simp only [hself, hset, hml, hget, hseti, hmm, take6, List.drop_zero, Int.cast_ofNat_Int, go_sem, ↓reduceIte, Nat.reduceEqDiff, Nat.reduceAdd, Nat.reduceMul, Nat.reduceLeDiff, Nat.reduceLT, Int.reduceLE, Int.reduceLT, reduceCtorEq]
    refine ⟨fun h2 => ?_, fun h2 => ?_⟩
    · have e7 : k + 6 * (x : Int) + 1 + j = k + 6 * x + ((j + 1 : Nat) : Int) := by omega
      have e8 : (mixM (k + 6 * (x : Int)) m (j + 1)).set (j + 1) (k + 6 * x + 1 + j) = mixM (k + 6 * x) m (j + 2) := by
        rw [e7]; exact mark_step (k + 6 * (x : Int)) (l := m) (by omega)
      rw [e8]
      refine ⟨by omega, by omega, by omega, fun h3 => ⟨by omega, by omega, by omega, ?_⟩⟩
      exact ihj (j + 1) (by omega) (by omega) _ _ (by simp [keep]; omega) rfl
    · obtain rfl : j = 5 := by omega
      have e6 : mixM (k + 6 * (x : Int)) m (5 + 1) = seqI (k + 6 * x) 6 := by simp [mixM, h6]
      rw [e6, mixA_set k hx]
      refine ⟨by omega, ?_⟩
      refine ih (x + 1) (by omega) (by omega) _ _ (by simp [keep]; omega) rfl
  · obtain rfl : x = l.length := by omega
    refine Kv.Fin.now ?_
    simpa [mixA] using hK
end Go.Proofs.Ytpepbomifjbgnaa
end
