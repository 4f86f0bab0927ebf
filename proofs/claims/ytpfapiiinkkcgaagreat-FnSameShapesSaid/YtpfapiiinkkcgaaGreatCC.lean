/- Numbers of commuting maps: both sides, and the law's function. -/
import Derived.Test.YtpfapiiinkkcgaaGreatCb
import Derived.Test.YtpfapiiinkkcgaaGreatG1
import Derived.Test.YtpfapiiinkkcgaaGreatG5
namespace Go.Proofs.YtpfapiiinkkcgaaGreat
open Go.Kv
set_option maxRecDepth 100000
/- spec.CountCommuting -/
/- live [1, 4, 5, 6] -/
def k56_b0 : KC := (.seq (.seq (.ops [⟨(some 13), none, .mv (.t 6)⟩, ⟨(some 14), none, .mv (.t 4)⟩, ⟨(some 15), none, .len false (.t 14)⟩, ⟨(some 16), none, .bin .lss (.t 13) (.t 15)⟩])
  (.cond (.t 16) .skip (.exit 0)))
  (.seq (.block 1 (.seq (.draw [⟨(some 19), none, .mv (.t 4)⟩, ⟨(some 20), none, .mv (.t 6)⟩, ⟨(some 21), none, .idxS 6 (.t 19) (.t 20)⟩, ⟨(some 22), none, .load true 6 (.t 21)⟩, ⟨(some 23), none, .load true 6 (.t 1)⟩, ⟨(some 25), none, .load true 6 (.t 1)⟩, ⟨(some 26), none, .mv (.t 4)⟩, ⟨(some 27), none, .mv (.t 6)⟩, ⟨(some 28), none, .idxS 6 (.t 26) (.t 27)⟩, ⟨(some 29), none, .load true 6 (.t 28)⟩, ⟨(some 24), none, .pcall (.c (.fn (.func 131) [] [])) [(.t 22), (.t 23)]⟩, ⟨(some 30), none, .pcall (.c (.fn (.func 131) [] [])) [(.t 25), (.t 29)]⟩, ⟨(some 31), none, .aeq false 6 (.t 24) (.t 30)⟩])
  (.cond (.t 31) (.ops [⟨(some 32), none, .mv (.t 5)⟩, ⟨(some 33), none, .bin .add (.t 32) (.c (.int .i64 1))⟩, ⟨(some 5), none, .mv (.t 33)⟩]) .skip)))
  (.ops [⟨(some 17), none, .mv (.t 6)⟩, ⟨(some 18), none, .bin .add (.t 17) (.c (.int .i64 1))⟩, ⟨(some 6), none, .mv (.t 18)⟩])))
def k56 : KC := (.seq (.ops [⟨(some 1), none, .box true (.t 0)⟩, ⟨(some 2), none, .mv (.c (.int .i64 0))⟩, ⟨(some 3), none, .mv (.c (.int .i64 0))⟩])
  (.seq (.seq (.ops [⟨(some 7), none, .load true 6 (.t 1)⟩, ⟨(some 8), none, .call (.c (.fn (.func 89) [] [])) [(.t 7)]⟩, ⟨(some 9), none, .not (.t 8)⟩])
  (.cond (.t 9) (.seq (.ops [⟨(some 2), none, .mv (.c (.int .i64 0))⟩, ⟨(some 3), none, .mv (.c (.int .i64 1))⟩])
  .ret) .skip))
  (.seq (.ops [⟨(some 10), none, .fieldA 0 (.t 1)⟩, ⟨(some 11), none, .load false 1 (.t 10)⟩, ⟨(some 12), none, .call (.c (.fn (.func 82) [] [])) [(.t 11)]⟩, ⟨(some 4), none, .mv (.t 12)⟩, ⟨(some 5), none, .mv (.c (.int .i64 0))⟩])
  (.seq (.seq (.ops [⟨(some 6), none, .mv (.c (.int .i64 0))⟩])
  (.block 0 (.loop k56_b0)))
  (.seq (.ops [⟨(some 34), none, .mv (.t 5)⟩, ⟨(some 2), none, .mv (.t 34)⟩, ⟨(some 3), none, .mv (.c (.int .i64 0))⟩])
  .ret)))))
theorem e56 {args : List PV} {σ : Heap} {K : PV → Heap → Prop} (hl : args.length ≤ 35) (h : Wf σ → (∀ a ∈ args, PV.upto σ.length a) → vc (mkCfg Tryz.prog mixed [1] 35 σ.length) k56 (FinK σ.length [.t 2, .t 3] K) (argEnv 0 args) σ) : ACall Tryz.prog 56 args σ K :=
  ACall_enter (C := mkCfg Tryz.prog mixed [1] 35 σ.length) (c := Tryz.f56.body.getD .skip) Tryz.func56 (by kernel_rfl) (by kernel_rfl) (by kernel_rfl) rfl hl (by kernel_rfl) (by kernel_rfl) h
/- impl.CountCommuting -/
def k55 : KC := (.seq (.ops [⟨(some 1), none, .box true (.t 0)⟩, ⟨(some 2), none, .mv (.c (.int .i64 0))⟩, ⟨(some 3), none, .mv (.c (.int .i64 0))⟩])
  (.seq (.seq (.ops [⟨(some 5), none, .load true 6 (.t 1)⟩, ⟨(some 6), none, .call (.c (.fn (.func 85) [] [])) [(.t 5)]⟩, ⟨(some 7), none, .not (.t 6)⟩])
  (.cond (.t 7) (.seq (.ops [⟨(some 2), none, .mv (.c (.int .i64 0))⟩, ⟨(some 3), none, .mv (.c (.int .i64 1))⟩])
  .ret) .skip))
  (.seq (.ops [⟨(some 8), none, .fieldA 0 (.t 1)⟩, ⟨(some 9), none, .load false 1 (.t 8)⟩, ⟨(some 10), none, .call (.c (.fn (.func 79) [] [])) [(.t 9)]⟩, ⟨(some 11), none, .mkfn (.func 133) [] [(.t 1)]⟩, ⟨(some 12), none, .call (.c (.fn (.func 132) [] [])) [(.t 10), (.t 11)]⟩, ⟨(some 4), none, .mv (.t 12)⟩])
  (.seq (.ops [⟨(some 13), none, .mv (.t 4)⟩, ⟨(some 14), none, .len false (.t 13)⟩, ⟨(some 2), none, .mv (.t 14)⟩, ⟨(some 3), none, .mv (.c (.int .i64 0))⟩])
  .ret))))
theorem e55 {args : List PV} {σ : Heap} {K : PV → Heap → Prop} (hl : args.length ≤ 15) (h : Wf σ → (∀ a ∈ args, PV.upto σ.length a) → vc (mkCfg Tryz.prog mixed [1] 15 σ.length) k55 (FinK σ.length [.t 2, .t 3] K) (argEnv 0 args) σ) : ACall Tryz.prog 55 args σ K :=
  ACall_enter (C := mkCfg Tryz.prog mixed [1] 15 σ.length) (c := Tryz.f55.body.getD .skip) Tryz.func55 (by kernel_rfl) (by kernel_rfl) (by kernel_rfl) rfl hl (by kernel_rfl) (by kernel_rfl) h
/- impl.CountCommuting$1 -/
def k133 : KC := (.seq (.ops [⟨(some 2), none, .box true (.t 0)⟩, ⟨(some 3), none, .mv (.c (.bool false))⟩])
  (.seq (.ops [⟨(some 4), none, .load true 6 (.t 1)⟩, ⟨(some 5), none, .load true 6 (.t 2)⟩, ⟨(some 6), none, .call (.c (.fn (.func 130) [] [])) [(.t 4), (.t 5)]⟩, ⟨(some 7), none, .not (.t 6)⟩, ⟨(some 3), none, .mv (.t 7)⟩])
  .ret))
theorem e133 {args : List PV} {σ : Heap} {K : PV → Heap → Prop} (hl : args.length ≤ 8) (h : Wf σ → (∀ a ∈ args, PV.upto σ.length a) → vc (mkCfg Tryz.prog mixed [2] 8 σ.length) k133 (FinK σ.length [.t 3] K) (argEnv 0 args) σ) : ACall Tryz.prog 133 args σ K :=
  ACall_enter (C := mkCfg Tryz.prog mixed [2] 8 σ.length) (c := Tryz.f133.body.getD .skip) Tryz.func133 (by kernel_rfl) (by kernel_rfl) (by kernel_rfl) rfl hl (by kernel_rfl) (by kernel_rfl) h
/- impl.commute -/
def k130 : KC := (.seq (.ops [⟨(some 2), none, .box true (.t 0)⟩, ⟨(some 3), none, .box true (.t 1)⟩, ⟨(some 4), none, .mv (.c (.bool false))⟩])
  (.seq (.draw [⟨(some 5), none, .load true 6 (.t 2)⟩, ⟨(some 6), none, .load true 6 (.t 3)⟩, ⟨(some 8), none, .load true 6 (.t 3)⟩, ⟨(some 9), none, .load true 6 (.t 2)⟩, ⟨(some 7), none, .pcall (.c (.fn (.func 118) [] [])) [(.t 5), (.t 6)]⟩, ⟨(some 10), none, .pcall (.c (.fn (.func 118) [] [])) [(.t 8), (.t 9)]⟩, ⟨(some 11), none, .aeq false 6 (.t 7) (.t 10)⟩, ⟨(some 4), none, .mv (.t 11)⟩])
  .ret))
theorem e130 {args : List PV} {σ : Heap} {K : PV → Heap → Prop} (hl : args.length ≤ 12) (h : Wf σ → (∀ a ∈ args, PV.upto σ.length a) → vc (mkCfg Tryz.prog mixed [2, 3] 12 σ.length) k130 (FinK σ.length [.t 4] K) (argEnv 0 args) σ) : ACall Tryz.prog 130 args σ K :=
  ACall_enter (C := mkCfg Tryz.prog mixed [2, 3] 12 σ.length) (c := Tryz.f130.body.getD .skip) Tryz.func130 (by kernel_rfl) (by kernel_rfl) (by kernel_rfl) rfl hl (by kernel_rfl) (by kernel_rfl) h
end Go.Proofs.YtpfapiiinkkcgaaGreat
namespace Go.Proofs.YtpfapiiinkkcgaaGreat
open Go.Kv
set_option linter.unusedVariables false
set_option linter.unusedSimpArgs false
attribute [local irreducible] ACall PCall KL
theorem p130 (f g : List Nat) (n : Nat) (hf : Ok f n) (hg : Ok g n) : Pure Tryz.prog 130 [.agg (ints (mp f)), .agg (ints (mp g))] (.bool (decide (mul f g = mul g f))) := by
  have hlg := hg.mp_len
  have hlf := hf.mp_len
  have h1 := (hf.mul hg).mp_len
  have h2 := (hg.mul hf).mp_len
  refine e130 (by simp) fun _ _ => ?_
  simp only [k130, argEnv, hlf, hlg, take6, List.drop_zero, Int.cast_ofNat_Int, go_sem, ↓reduceIte, Nat.reduceEqDiff, Nat.reduceAdd, Nat.reduceMul, Nat.reduceLeDiff, Nat.reduceLT, Int.reduceLE, Int.reduceLT, reduceCtorEq]
  refine (p118 f g n hf hg).pgo ?_
  try simp only [take6, List.drop_zero, Int.cast_ofNat_Int, go_sem, ↓reduceIte, Nat.reduceEqDiff, Nat.reduceAdd, Nat.reduceMul, Nat.reduceLeDiff, Nat.reduceLT, Int.reduceLE, Int.reduceLT, reduceCtorEq]
  refine (p118 g f n hg hf).pgo ?_
  try simp only [h1, h2, take6, List.drop_zero, Int.cast_ofNat_Int, go_sem, ↓reduceIte, Nat.reduceEqDiff, Nat.reduceAdd, Nat.reduceMul, Nat.reduceLeDiff, Nat.reduceLT, Int.reduceLE, Int.reduceLT, reduceCtorEq]
  refine Kv.Fin.still ⟨?_, rfl⟩
  congr 1
  exact decide_eq_decide.2 ⟨mp_inj, fun h => by rw [h]⟩
theorem p133 (f g : List Nat) (n : Nat) (hf : Ok f n) (hg : Ok g n) : Pure Tryz.prog 133 [.agg (ints (mp g)), .fptr (ints (mp f)) 0] (.bool (!decide (mul f g = mul g f))) := by
  have hlg := hg.mp_len
  have hlf := hf.mp_len
  refine e133 (by simp) fun _ _ => ?_
  simp only [k133, argEnv, hlf, hlg, take6, List.drop_zero, Int.cast_ofNat_Int, go_sem, ↓reduceIte, Nat.reduceEqDiff, Nat.reduceAdd, Nat.reduceMul, Nat.reduceLeDiff, Nat.reduceLT, Int.reduceLE, Int.reduceLT, reduceCtorEq]
  refine (p130 f g n hf hg).go ?_
  try simp only [take6, List.drop_zero, Int.cast_ofNat_Int, go_sem, ↓reduceIte, Nat.reduceEqDiff, Nat.reduceAdd, Nat.reduceMul, Nat.reduceLeDiff, Nat.reduceLT, Int.reduceLE, Int.reduceLT, reduceCtorEq]
  exact Kv.Fin.still ⟨rfl, rfl⟩
def comM (f : List Nat) (n : Nat) : List (List Nat) := (allM n).filter fun g => decide (mul f g = mul g f)
theorem allM_ok {n : Nat} (h1 : 1 ≤ n) (h5 : n ≤ 5) {g : List Nat} (h : g ∈ allM n) : Ok g n := by
  simp only [allM, List.mem_map] at h
  obtain ⟨k, _, rfl⟩ := h
  exact dg_ok h1 h5 k
theorem p55 (f : List Nat) (n : Nat) (hf : Ok f n) : Pure Tryz.prog 55 [.agg (ints (mp f))] (.tup [.int .i64 (comM f n).length, .int .i64 0]) := by
  have hlf := hf.mp_len
  have hnn := nn_le n (by have := hf.le; omega)
  refine e55 (by simp) fun _ _ => ?_
  simp only [k55, argEnv, hlf, take6, List.drop_zero, Int.cast_ofNat_Int, go_sem, ↓reduceIte, Nat.reduceEqDiff, Nat.reduceAdd, Nat.reduceMul, Nat.reduceLeDiff, Nat.reduceLT, Int.reduceLE, Int.reduceLT, reduceCtorEq]
  refine (p85 (mp f) hlf).go ?_
  rw [isM_mp hf]
  try simp only [hlf, hf.len, take6, List.drop_zero, Int.cast_ofNat_Int, go_sem, ↓reduceIte, Nat.reduceEqDiff, Nat.reduceAdd, Nat.reduceMul, Nat.reduceLeDiff, Nat.reduceLT, Int.reduceLE, Int.reduceLT, reduceCtorEq]
  refine (p79 n hf.pos hf.le).go fun v s ⟨hv, hs⟩ => ?_
  subst hv; subst hs
  try simp only [ren_ref, hlf, take6, List.drop_zero, Int.cast_ofNat_Int, go_sem, ↓reduceIte, Nat.reduceEqDiff, Nat.reduceAdd, Nat.reduceMul, Nat.reduceLeDiff, Nat.reduceLT, Int.reduceLE, Int.reduceLT, reduceCtorEq]
  have hml : (allM n).length = n ^ n := by simp [allM]
  refine delM _ 0 (n ^ n - 1) 34 (allM n) _ hml.symm rfl (fun g hg => by rw [(allM_ok hf.pos hf.le hg).len]; exact hf.le) (by omega) 133 [.fptr (ints (mp f)) 0] (fun g => !decide (mul f g = mul g f)) (fun g hg => p133 f g n hf (allM_ok hf.pos hf.le hg)) fun post => ?_
  simp only [Bool.not_not]
  have hle : ((allM n).filter fun g => decide (mul f g = mul g f)).length ≤ n ^ n := by
    have := List.length_filter_le (fun g => decide (mul f g = mul g f)) (allM n); omega
  try simp only [List.length_map, take6, List.drop_zero, Int.cast_ofNat_Int, go_sem, ↓reduceIte, Nat.reduceEqDiff, Nat.reduceAdd, Nat.reduceMul, Nat.reduceLeDiff, Nat.reduceLT, Int.reduceLE, Int.reduceLT, reduceCtorEq]
  exact Kv.Fin.still ⟨rfl, rfl⟩
theorem p56 (f : List Nat) (n : Nat) (hf : Ok f n) : Pure Tryz.prog 56 [.agg (ints (mp f))] (.tup [.int .i64 (comM f n).length, .int .i64 0]) := by
  have hlf := hf.mp_len
  have hnn := nn_le n (by have := hf.le; omega)
  refine e56 (by simp) fun _ _ => ?_
  simp only [k56, argEnv, hlf, take6, List.drop_zero, Int.cast_ofNat_Int, go_sem, ↓reduceIte, Nat.reduceEqDiff, Nat.reduceAdd, Nat.reduceMul, Nat.reduceLeDiff, Nat.reduceLT, Int.reduceLE, Int.reduceLT, reduceCtorEq]
  refine (p89 (mp f) hlf).go ?_
  rw [isM_mp hf]
  try simp only [hlf, hf.len, take6, List.drop_zero, Int.cast_ofNat_Int, go_sem, ↓reduceIte, Nat.reduceEqDiff, Nat.reduceAdd, Nat.reduceMul, Nat.reduceLeDiff, Nat.reduceLT, Int.reduceLE, Int.reduceLT, reduceCtorEq]
  refine (p82 n hf.pos hf.le).go ?_
  try simp only [hlf, take6, List.drop_zero, Int.cast_ofNat_Int, go_sem, ↓reduceIte, Nat.reduceEqDiff, Nat.reduceAdd, Nat.reduceMul, Nat.reduceLeDiff, Nat.reduceLT, Int.reduceLE, Int.reduceLT, reduceCtorEq]
  have hml : (allM n).length = n ^ n := by simp [allM]
  refine KL_ind k56_b0.eq_1 (fun x : Nat => [(1, .fptr (ints (mp f)) 0), (4, .list (aggs ((allM n).map mp))), (5, .int .i64 (((allM n).take x).filter fun g => decide (mul f g = mul g f)).length), (6, .int .i64 x)]) (fun _ => []) (fun x => x ≤ n ^ n) (fun x => n ^ n - x) [1, 4, 5, 6] 0 (by rfl) rfl (Nat.zero_le _) fun x hx ih => ?_
  try simp only [hlf, List.length_map, hml, take6, List.drop_zero, Int.cast_ofNat_Int, go_sem, ↓reduceIte, Nat.reduceEqDiff, Nat.reduceAdd, Nat.reduceMul, Nat.reduceLeDiff, Nat.reduceLT, Int.reduceLE, Int.reduceLT, reduceCtorEq]
  refine ⟨fun h1 => ⟨by omega, fun h2 => ?_⟩, fun h1 => ?_⟩
  · have hxl : x < (allM n).length := by omega
    have hg := allM_ok hf.pos hf.le (List.getElem_mem hxl)
    have e : ((allM n).map mp).getD x [] = mp (allM n)[x] := by simp [List.getD_eq_getElem?_getD, hxl]
    rw [e]
    have hlg := hg.mp_len
    try simp only [hlg, take6, List.drop_zero, Int.cast_ofNat_Int, go_sem, ↓reduceIte, Nat.reduceEqDiff, Nat.reduceAdd, Nat.reduceMul, Nat.reduceLeDiff, Nat.reduceLT, Int.reduceLE, Int.reduceLT, reduceCtorEq]
    refine ⟨by omega, fun _ => ?_⟩
    refine (p131 _ f n hg hf).pgo ?_
    try simp only [take6, List.drop_zero, Int.cast_ofNat_Int, go_sem, ↓reduceIte, Nat.reduceEqDiff, Nat.reduceAdd, Nat.reduceMul, Nat.reduceLeDiff, Nat.reduceLT, Int.reduceLE, Int.reduceLT, reduceCtorEq]
    refine (p131 f _ n hf hg).pgo ?_
    have k1 := (hf.mul hg).mp_len
    have k2 := (hg.mul hf).mp_len
    try simp only [k1, k2, take6, List.drop_zero, Int.cast_ofNat_Int, go_sem, ↓reduceIte, Nat.reduceEqDiff, Nat.reduceAdd, Nat.reduceMul, Nat.reduceLeDiff, Nat.reduceLT, Int.reduceLE, Int.reduceLT, reduceCtorEq]
    have hs := filter_take_succ (p := fun g => decide (mul f g = mul g f)) hxl
    have hle : (((allM n).take x).filter fun g => decide (mul f g = mul g f)).length ≤ x := by
      have := List.length_filter_le (fun g => decide (mul f g = mul g f)) ((allM n).take x)
      simp only [List.length_take] at this; omega
    refine ⟨fun h3 => ?_, fun h3 => ?_⟩
    · have h4 := mp_inj h3
      rw [if_pos (decide_eq_true h4.symm)] at hs
      repeat' (first | refine And.intro ?_ ?_ | intro _)
      all_goals (try omega)
      refine ih (x + 1) (by omega) (by omega) _ _ ?_ rfl
      simp [keep, hs]
    · have h4 : ¬ mul f (allM n)[x] = mul (allM n)[x] f := fun h => h3 (by rw [h])
      rw [if_neg (by simpa using h4), List.append_nil] at hs
      repeat' (first | refine And.intro ?_ ?_ | intro _)
      all_goals (try omega)
      refine ih (x + 1) (by omega) (by omega) _ _ ?_ rfl
      simp [keep, hs]
  · obtain rfl : x = n ^ n := by omega
    refine Kv.Fin.still ⟨?_, rfl⟩
    rw [← hml, List.take_length]
    rfl
theorem p55_out (m : List Int) (h : m.length = 6) (hm : isM m = false) : Pure Tryz.prog 55 [.agg (ints m)] (.tup [.int .i64 0, .int .i64 1]) := by
  refine e55 (by simp) fun _ _ => ?_
  simp only [k55, argEnv, h, take6, List.drop_zero, Int.cast_ofNat_Int, go_sem, ↓reduceIte, Nat.reduceEqDiff, Nat.reduceAdd, Nat.reduceMul, Nat.reduceLeDiff, Nat.reduceLT, Int.reduceLE, Int.reduceLT, reduceCtorEq]
  refine (p85 m h).go ?_
  rw [hm]
  try simp only [take6, List.drop_zero, Int.cast_ofNat_Int, go_sem, ↓reduceIte, Nat.reduceEqDiff, Nat.reduceAdd, Nat.reduceMul, Nat.reduceLeDiff, Nat.reduceLT, Int.reduceLE, Int.reduceLT, reduceCtorEq]
  exact Kv.Fin.still ⟨rfl, rfl⟩
theorem p56_out (m : List Int) (h : m.length = 6) (hm : isM m = false) : Pure Tryz.prog 56 [.agg (ints m)] (.tup [.int .i64 0, .int .i64 1]) := by
  refine e56 (by simp) fun _ _ => ?_
  simp only [k56, argEnv, h, take6, List.drop_zero, Int.cast_ofNat_Int, go_sem, ↓reduceIte, Nat.reduceEqDiff, Nat.reduceAdd, Nat.reduceMul, Nat.reduceLeDiff, Nat.reduceLT, Int.reduceLE, Int.reduceLT, reduceCtorEq]
  refine (p89 m h).go ?_
  rw [hm]
  try simp only [take6, List.drop_zero, Int.cast_ofNat_Int, go_sem, ↓reduceIte, Nat.reduceEqDiff, Nat.reduceAdd, Nat.reduceMul, Nat.reduceLeDiff, Nat.reduceLT, Int.reduceLE, Int.reduceLT, reduceCtorEq]
  exact Kv.Fin.still ⟨rfl, rfl⟩
end Go.Proofs.YtpfapiiinkkcgaaGreat
