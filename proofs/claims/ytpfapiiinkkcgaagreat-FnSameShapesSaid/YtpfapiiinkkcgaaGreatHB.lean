/- Heights and basins: both sides, and the laws' functions. -/
import Derived.Test.YtpfapiiinkkcgaaGreatCb
import Derived.Test.YtpfapiiinkkcgaaGreatG5
namespace Go.Proofs.YtpfapiiinkkcgaaGreat
open Go.Kv
set_option maxRecDepth 100000
/- spec.HeightsOf -/
/- live [1, 4, 5, 6, 7, 8] -/
def k23_b0 : KC := (.seq (.seq (.ops [⟨(some 23), none, .mv (.t 4)⟩, ⟨(some 24), none, .mv (.t 8)⟩, ⟨(some 25), none, .conv .u64 (.t 24)⟩, ⟨(some 26), none, .bin .shr (.t 23) (.t 25)⟩, ⟨(some 27), none, .bin .and (.t 26) (.c (.int .i64 1))⟩, ⟨(some 28), none, .bin .eql (.t 27) (.c (.int .i64 0))⟩])
  (.cond (.t 28) .skip (.exit 2)))
  (.seq (.block 3 (.ops [⟨(some 33), none, .mv (.t 7)⟩, ⟨(some 34), none, .bin .add (.t 33) (.c (.int .i64 1))⟩, ⟨(some 7), none, .mv (.t 34)⟩]))
  (.ops [⟨(some 29), none, .mv (.t 8)⟩, ⟨(some 30), none, .fieldA 1 (.t 1)⟩, ⟨(some 31), none, .idxA 5 1 (.t 30) (.t 29)⟩, ⟨(some 32), none, .load false 1 (.t 31)⟩, ⟨(some 8), none, .mv (.t 32)⟩])))
/- live [1, 4, 5, 6] -/
def k23_b1 : KC := (.seq (.seq (.ops [⟨(some 16), none, .mv (.t 6)⟩, ⟨(some 17), none, .fieldA 0 (.t 1)⟩, ⟨(some 18), none, .load false 1 (.t 17)⟩, ⟨(some 19), none, .bin .lss (.t 16) (.t 18)⟩])
  (.cond (.t 19) .skip (.exit 0)))
  (.seq (.block 1 (.seq (.ops [⟨(some 7), none, .mv (.c (.int .i64 0))⟩])
  (.seq (.seq (.ops [⟨(some 22), none, .mv (.t 6)⟩, ⟨(some 8), none, .mv (.t 22)⟩])
  (.block 2 (.loop k23_b0)))
  (.ops [⟨(some 35), none, .mv (.t 5)⟩, ⟨(some 36), none, .mv (.t 7)⟩, ⟨(some 37), none, .bsl true 2 1 [(.t 36)]⟩, ⟨(some 38), none, .app (.t 35) (.t 37) 2 1⟩, ⟨(some 5), none, .mv (.t 38)⟩]))))
  (.ops [⟨(some 20), none, .mv (.t 6)⟩, ⟨(some 21), none, .bin .add (.t 20) (.c (.int .i64 1))⟩, ⟨(some 6), none, .mv (.t 21)⟩])))
def k23 : KC := (.seq (.ops [⟨(some 1), none, .box true (.t 0)⟩, ⟨(some 2), none, .mv (.c (.nils))⟩, ⟨(some 3), none, .mv (.c (.int .i64 0))⟩])
  (.seq (.seq (.ops [⟨(some 9), none, .load true 6 (.t 1)⟩, ⟨(some 10), none, .call (.c (.fn (.func 89) [] [])) [(.t 9)]⟩, ⟨(some 11), none, .not (.t 10)⟩])
  (.cond (.t 11) (.seq (.ops [⟨(some 2), none, .mv (.c (.nils))⟩, ⟨(some 3), none, .mv (.c (.int .i64 1))⟩])
  .ret) .skip))
  (.seq (.ops [⟨(some 12), none, .load true 6 (.t 1)⟩, ⟨(some 13), none, .call (.c (.fn (.func 92) [] [])) [(.t 12), (.c (.int .i64 60))]⟩, ⟨(some 14), none, .call (.c (.fn (.func 91) [] [])) [(.t 13)]⟩, ⟨(some 15), none, .bsl false 2 1 []⟩, ⟨(some 4), none, .mv (.t 14)⟩, ⟨(some 5), none, .mv (.t 15)⟩])
  (.seq (.seq (.ops [⟨(some 6), none, .mv (.c (.int .i64 0))⟩])
  (.block 0 (.loop k23_b1)))
  (.seq (.ops [⟨(some 39), none, .mv (.t 5)⟩, ⟨(some 2), none, .mv (.t 39)⟩, ⟨(some 3), none, .mv (.c (.int .i64 0))⟩])
  .ret)))))
theorem e23 {args : List PV} {σ : Heap} {K : PV → Heap → Prop} (hl : args.length ≤ 40) (h : Wf σ → (∀ a ∈ args, PV.upto σ.length a) → vc (mkCfg Tryz.prog mixed [1, 37] 40 σ.length) k23 (FinK σ.length [.t 2, .t 3] K) (argEnv 0 args) σ) : ACall Tryz.prog 23 args σ K :=
  ACall_enter (C := mkCfg Tryz.prog mixed [1, 37] 40 σ.length) (c := Tryz.f23.body.getD .skip) Tryz.func23 (by kernel_rfl) (by kernel_rfl) (by kernel_rfl) rfl hl (by kernel_rfl) (by kernel_rfl) h
/- impl.HeightsOf -/
/- live [1, 4, 12, 13] -/
def k22_b0 : KC := (.seq (.ops [⟨(some 14), none, .bin .lss (.t 13) (.t 12)⟩])
  (.seq (.cond (.t 14) .skip (.exit 0))
  (.seq (.block 1 (.seq (.ops [⟨(some 15), none, .mv (.t 13)⟩, ⟨(some 5), none, .mv (.t 15)⟩])
  (.seq (.ops [⟨(some 17), none, .load true 6 (.t 1)⟩, ⟨(some 18), none, .mv (.t 5)⟩, ⟨(some 19), none, .call (.c (.fn (.func 86) [] [])) [(.t 17), (.t 18)]⟩, ⟨(some 16), none, .mv (.t 19)⟩, ⟨(some 20), none, .extr 0 (.t 16)⟩, ⟨(some 21), none, .extr 1 (.t 16)⟩, ⟨(some 6), none, .mv (.t 20)⟩, ⟨(some 7), none, .mv (.t 21)⟩])
  (.ops [⟨(some 22), none, .mv (.t 4)⟩, ⟨(some 23), none, .mv (.t 7)⟩, ⟨(some 24), none, .bsl true 2 1 [(.t 23)]⟩, ⟨(some 25), none, .app (.t 22) (.t 24) 2 1⟩, ⟨(some 4), none, .mv (.t 25)⟩]))))
  (.ops [⟨(some 26), none, .bin .add (.t 13) (.c (.int .i64 1))⟩, ⟨(some 13), none, .mv (.t 26)⟩]))))
def k22 : KC := (.seq (.ops [⟨(some 1), none, .box true (.t 0)⟩, ⟨(some 2), none, .mv (.c (.nils))⟩, ⟨(some 3), none, .mv (.c (.int .i64 0))⟩])
  (.seq (.seq (.ops [⟨(some 8), none, .load true 6 (.t 1)⟩, ⟨(some 9), none, .call (.c (.fn (.func 85) [] [])) [(.t 8)]⟩, ⟨(some 10), none, .not (.t 9)⟩])
  (.cond (.t 10) (.seq (.ops [⟨(some 2), none, .mv (.c (.nils))⟩, ⟨(some 3), none, .mv (.c (.int .i64 1))⟩])
  .ret) .skip))
  (.seq (.ops [⟨(some 4), none, .mv (.c (.nils))⟩])
  (.seq (.seq (.ops [⟨(some 11), none, .fieldA 0 (.t 1)⟩, ⟨(some 12), none, .load false 1 (.t 11)⟩, ⟨(some 13), none, .mv (.c (.int .i64 0))⟩])
  (.block 0 (.loop k22_b0)))
  (.seq (.ops [⟨(some 27), none, .mv (.t 4)⟩, ⟨(some 2), none, .mv (.t 27)⟩, ⟨(some 3), none, .mv (.c (.int .i64 0))⟩])
  .ret)))))
theorem e22 {args : List PV} {σ : Heap} {K : PV → Heap → Prop} (hl : args.length ≤ 28) (h : Wf σ → (∀ a ∈ args, PV.upto σ.length a) → vc (mkCfg Tryz.prog mixed [1, 24] 28 σ.length) k22 (FinK σ.length [.t 2, .t 3] K) (argEnv 0 args) σ) : ACall Tryz.prog 22 args σ K :=
  ACall_enter (C := mkCfg Tryz.prog mixed [1, 24] 28 σ.length) (c := Tryz.f22.body.getD .skip) Tryz.func22 (by kernel_rfl) (by kernel_rfl) (by kernel_rfl) rfl hl (by kernel_rfl) (by kernel_rfl) h
/- spec.BasinsOf -/
def k21 : KC := (.seq (.ops [⟨(some 1), none, .box true (.t 0)⟩, ⟨(some 2), none, .mv (.c (.nils))⟩, ⟨(some 3), none, .mv (.c (.int .i64 0))⟩])
  (.seq (.seq (.ops [⟨(some 4), none, .load true 6 (.t 1)⟩, ⟨(some 5), none, .call (.c (.fn (.func 89) [] [])) [(.t 4)]⟩, ⟨(some 6), none, .not (.t 5)⟩])
  (.cond (.t 6) (.seq (.ops [⟨(some 2), none, .mv (.c (.nils))⟩, ⟨(some 3), none, .mv (.c (.int .i64 1))⟩])
  .ret) .skip))
  (.seq (.ops [⟨(some 7), none, .load true 6 (.t 1)⟩, ⟨(some 8), none, .call (.c (.fn (.func 90) [] [])) [(.t 7)]⟩, ⟨(some 2), none, .mv (.t 8)⟩, ⟨(some 3), none, .mv (.c (.int .i64 0))⟩])
  .ret)))
theorem e21 {args : List PV} {σ : Heap} {K : PV → Heap → Prop} (hl : args.length ≤ 9) (h : Wf σ → (∀ a ∈ args, PV.upto σ.length a) → vc (mkCfg Tryz.prog mixed [1] 9 σ.length) k21 (FinK σ.length [.t 2, .t 3] K) (argEnv 0 args) σ) : ACall Tryz.prog 21 args σ K :=
  ACall_enter (C := mkCfg Tryz.prog mixed [1] 9 σ.length) (c := Tryz.f21.body.getD .skip) Tryz.func21 (by kernel_rfl) (by kernel_rfl) (by kernel_rfl) rfl hl (by kernel_rfl) (by kernel_rfl) h
/- spec.l09Basins -/
/- live [1, 3, 4, 5, 6, 7] -/
def k90_b0 : KC := (.seq (.seq (.ops [⟨(some 25), none, .mv (.t 7)⟩, ⟨(some 26), none, .mv (.t 5)⟩, ⟨(some 27), none, .bin .neq (.t 25) (.t 26)⟩])
  (.cond (.t 27) .skip (.exit 2)))
  (.seq (.block 3 (.ops [⟨(some 32), none, .mv (.t 6)⟩, ⟨(some 33), none, .mv (.t 7)⟩, ⟨(some 34), none, .mnmx false (.t 32) [(.t 33)]⟩, ⟨(some 6), none, .mv (.t 34)⟩]))
  (.ops [⟨(some 28), none, .mv (.t 7)⟩, ⟨(some 29), none, .fieldA 1 (.t 1)⟩, ⟨(some 30), none, .idxA 5 1 (.t 29) (.t 28)⟩, ⟨(some 31), none, .load false 1 (.t 30)⟩, ⟨(some 7), none, .mv (.t 31)⟩])))
/- live [1, 3, 4] -/
def k90_b1 : KC := (.seq (.seq (.ops [⟨(some 9), none, .mv (.t 4)⟩, ⟨(some 10), none, .fieldA 0 (.t 1)⟩, ⟨(some 11), none, .load false 1 (.t 10)⟩, ⟨(some 12), none, .bin .lss (.t 9) (.t 11)⟩])
  (.cond (.t 12) .skip (.exit 0)))
  (.seq (.block 1 (.seq (.ops [⟨(some 15), none, .load true 6 (.t 1)⟩, ⟨(some 16), none, .call (.c (.fn (.func 92) [] [])) [(.t 15), (.c (.int .i64 60))]⟩, ⟨(some 17), none, .fieldV true 5 1 (.t 16)⟩, ⟨(some 18), none, .mv (.t 4)⟩, ⟨(some 19), none, .idxV 5 1 false (.t 17) (.t 18)⟩, ⟨(some 5), none, .mv (.t 19)⟩])
  (.seq (.ops [⟨(some 20), none, .mv (.t 5)⟩, ⟨(some 6), none, .mv (.t 20)⟩])
  (.seq (.seq (.ops [⟨(some 21), none, .mv (.t 5)⟩, ⟨(some 22), none, .fieldA 1 (.t 1)⟩, ⟨(some 23), none, .idxA 5 1 (.t 22) (.t 21)⟩, ⟨(some 24), none, .load false 1 (.t 23)⟩, ⟨(some 7), none, .mv (.t 24)⟩])
  (.block 2 (.loop k90_b0)))
  (.ops [⟨(some 35), none, .mv (.t 3)⟩, ⟨(some 36), none, .mv (.t 6)⟩, ⟨(some 37), none, .bsl true 2 1 [(.t 36)]⟩, ⟨(some 38), none, .app (.t 35) (.t 37) 2 1⟩, ⟨(some 3), none, .mv (.t 38)⟩])))))
  (.ops [⟨(some 13), none, .mv (.t 4)⟩, ⟨(some 14), none, .bin .add (.t 13) (.c (.int .i64 1))⟩, ⟨(some 4), none, .mv (.t 14)⟩])))
def k90 : KC := (.seq (.ops [⟨(some 1), none, .box true (.t 0)⟩, ⟨(some 2), none, .mv (.c (.nils))⟩])
  (.seq (.ops [⟨(some 8), none, .bsl false 2 1 []⟩, ⟨(some 3), none, .mv (.t 8)⟩])
  (.seq (.seq (.ops [⟨(some 4), none, .mv (.c (.int .i64 0))⟩])
  (.block 0 (.loop k90_b1)))
  (.seq (.ops [⟨(some 39), none, .mv (.t 3)⟩, ⟨(some 2), none, .mv (.t 39)⟩])
  .ret))))
theorem e90 {args : List PV} {σ : Heap} {K : PV → Heap → Prop} (hl : args.length ≤ 40) (h : Wf σ → (∀ a ∈ args, PV.upto σ.length a) → vc (mkCfg Tryz.prog mixed [1, 37] 40 σ.length) k90 (FinK σ.length [.t 2] K) (argEnv 0 args) σ) : ACall Tryz.prog 90 args σ K :=
  ACall_enter (C := mkCfg Tryz.prog mixed [1, 37] 40 σ.length) (c := Tryz.f90.body.getD .skip) Tryz.func90 (by kernel_rfl) (by kernel_rfl) (by kernel_rfl) rfl hl (by kernel_rfl) (by kernel_rfl) h
/- impl.BasinsOf -/
/- live [1, 4, 12, 13] -/
def k20_b0 : KC := (.seq (.ops [⟨(some 14), none, .bin .lss (.t 13) (.t 12)⟩])
  (.seq (.cond (.t 14) .skip (.exit 0))
  (.seq (.block 1 (.seq (.ops [⟨(some 15), none, .mv (.t 13)⟩, ⟨(some 5), none, .mv (.t 15)⟩])
  (.seq (.ops [⟨(some 17), none, .load true 6 (.t 1)⟩, ⟨(some 18), none, .mv (.t 5)⟩, ⟨(some 19), none, .call (.c (.fn (.func 86) [] [])) [(.t 17), (.t 18)]⟩, ⟨(some 16), none, .mv (.t 19)⟩, ⟨(some 20), none, .extr 0 (.t 16)⟩, ⟨(some 21), none, .extr 1 (.t 16)⟩, ⟨(some 6), none, .mv (.t 20)⟩, ⟨(some 7), none, .mv (.t 21)⟩])
  (.ops [⟨(some 22), none, .mv (.t 4)⟩, ⟨(some 23), none, .load true 6 (.t 1)⟩, ⟨(some 24), none, .mv (.t 6)⟩, ⟨(some 25), none, .call (.c (.fn (.func 88) [] [])) [(.t 23), (.t 24)]⟩, ⟨(some 26), none, .call (.c (.fn (.func 87) [] [])) [(.t 25)]⟩, ⟨(some 27), none, .bsl true 2 1 [(.t 26)]⟩, ⟨(some 28), none, .app (.t 22) (.t 27) 2 1⟩, ⟨(some 4), none, .mv (.t 28)⟩]))))
  (.ops [⟨(some 29), none, .bin .add (.t 13) (.c (.int .i64 1))⟩, ⟨(some 13), none, .mv (.t 29)⟩]))))
def k20 : KC := (.seq (.ops [⟨(some 1), none, .box true (.t 0)⟩, ⟨(some 2), none, .mv (.c (.nils))⟩, ⟨(some 3), none, .mv (.c (.int .i64 0))⟩])
  (.seq (.seq (.ops [⟨(some 8), none, .load true 6 (.t 1)⟩, ⟨(some 9), none, .call (.c (.fn (.func 85) [] [])) [(.t 8)]⟩, ⟨(some 10), none, .not (.t 9)⟩])
  (.cond (.t 10) (.seq (.ops [⟨(some 2), none, .mv (.c (.nils))⟩, ⟨(some 3), none, .mv (.c (.int .i64 1))⟩])
  .ret) .skip))
  (.seq (.ops [⟨(some 4), none, .mv (.c (.nils))⟩])
  (.seq (.seq (.ops [⟨(some 11), none, .fieldA 0 (.t 1)⟩, ⟨(some 12), none, .load false 1 (.t 11)⟩, ⟨(some 13), none, .mv (.c (.int .i64 0))⟩])
  (.block 0 (.loop k20_b0)))
  (.seq (.ops [⟨(some 30), none, .mv (.t 4)⟩, ⟨(some 2), none, .mv (.t 30)⟩, ⟨(some 3), none, .mv (.c (.int .i64 0))⟩])
  .ret)))))
theorem e20 {args : List PV} {σ : Heap} {K : PV → Heap → Prop} (hl : args.length ≤ 31) (h : Wf σ → (∀ a ∈ args, PV.upto σ.length a) → vc (mkCfg Tryz.prog mixed [1, 27] 31 σ.length) k20 (FinK σ.length [.t 2, .t 3] K) (argEnv 0 args) σ) : ACall Tryz.prog 20 args σ K :=
  ACall_enter (C := mkCfg Tryz.prog mixed [1, 27] 31 σ.length) (c := Tryz.f20.body.getD .skip) Tryz.func20 (by kernel_rfl) (by kernel_rfl) (by kernel_rfl) rfl hl (by kernel_rfl) (by kernel_rfl) h
end Go.Proofs.YtpfapiiinkkcgaaGreat
namespace Go.Proofs.YtpfapiiinkkcgaaGreat
open Go.Kv
set_option linter.unusedVariables false
set_option linter.unusedSimpArgs false
attribute [local irreducible] ACall PCall KL
def htl (f : List Nat) (n x : Nat) : List Int := (List.range x).map fun p => (hgt f n p : Int)
@[simp] theorem htl_length (f : List Nat) (n x : Nat) : (htl f n x).length = x := by simp [htl]
theorem htl_succ (f : List Nat) (n x : Nat) : htl f n x ++ [(hgt f n x : Int)] = htl f n (x + 1) := by simp [htl, List.range_succ]
theorem p22_in (f : List Nat) (n : Nat) (hf : Ok f n) : NewI Tryz.prog 22 [.agg (ints (mp f))] 2 (htl f n n) 0 := by
  have hlf := hf.mp_len
  have h1 := hf.pos
  have h5 := hf.le
  refine NewI.mk (n - 1) [] [] ?_
  refine e22 (by simp) fun _ _ => ?_
  simp only [k22, argEnv, hlf, take6, List.drop_zero, Int.cast_ofNat_Int, go_sem, ↓reduceIte, Nat.reduceEqDiff, Nat.reduceAdd, Nat.reduceMul, Nat.reduceLeDiff, Nat.reduceLT, Int.reduceLE, Int.reduceLT, reduceCtorEq]
  refine (p85 (mp f) hlf).go ?_
  rw [isM_mp hf]
  try simp only [hlf, hf.len, take6, List.drop_zero, Int.cast_ofNat_Int, go_sem, ↓reduceIte, Nat.reduceEqDiff, Nat.reduceAdd, Nat.reduceMul, Nat.reduceLeDiff, Nat.reduceLT, Int.reduceLE, Int.reduceLT, reduceCtorEq]
  refine KL_ind k22_b0.eq_1 (fun x : Nat => [(1, .fptr (ints (mp f)) 0), (4, nref 0 x), (12, .int .i64 n), (13, .int .i64 x)]) (fun x => nhp [.arr (x - 1) 2 1 (ints (htl f n x))] x) (fun x => x ≤ n) (fun x => n - x) [1, 4, 12, 13] 0 (by rfl) (by rfl) (Nat.zero_le _) fun x hx ih => ?_
  try simp only [hlf, take6, List.drop_zero, Int.cast_ofNat_Int, go_sem, ↓reduceIte, Nat.reduceEqDiff, Nat.reduceAdd, Nat.reduceMul, Nat.reduceLeDiff, Nat.reduceLT, Int.reduceLE, Int.reduceLT, reduceCtorEq]
  refine ⟨fun h2 => ?_, fun h2 => ?_⟩
  · refine (p86 f n x hf (by omega)).go ?_
    rcases x with _ | x
    · try simp only [take6, List.drop_zero, Int.cast_ofNat_Int, go_sem, ↓reduceIte, Nat.reduceEqDiff, Nat.reduceAdd, Nat.reduceMul, Nat.reduceLeDiff, Nat.reduceLT, Int.reduceLE, Int.reduceLT, reduceCtorEq]
      repeat' (first | refine And.intro ?_ ?_ | intro _)
      all_goals (try omega)
      exact ih 1 (by omega) (by omega) _ _ (by rfl) (by rfl)
    · have hl := htl_length f n (x + 1)
      try simp only [hl, take6, List.drop_zero, Int.cast_ofNat_Int, go_sem, ↓reduceIte, Nat.reduceEqDiff, Nat.reduceAdd, Nat.reduceMul, Nat.reduceLeDiff, Nat.reduceLT, Int.reduceLE, Int.reduceLT, reduceCtorEq]
      repeat' (first | refine And.intro ?_ ?_ | intro _)
      all_goals (try omega)
      refine ih (x + 1 + 1) (by omega) (by omega) _ _ (by rfl) ?_
      rw [List.take_of_length_le (by simp), htl_succ]
      rfl
  · obtain rfl : x = n := by omega
    rw [nref_pos (by omega), nhp_pos (by omega)]
    refine Kv.Fin.now ⟨?_, ?_⟩ <;> simp
theorem p23_in (f : List Nat) (n : Nat) (hf : Ok f n) : NewI Tryz.prog 23 [.agg (ints (mp f))] 2 (htl f n n) 0 := by
  have hlf := hf.mp_len
  have h1 := hf.pos
  have h5 := hf.le
  have hi := itM_ok hf 60
  have hli := hi.mp_len
  have hb : sb (itM f n 60) < 2 ^ 62 := Nat.lt_trans (sb_lt (n := 5) fun y hy => by have := hi.lt y hy; omega) (by decide)
  refine NewI.mk n [] [] ?_
  refine e23 (by simp) fun _ _ => ?_
  simp only [k23, argEnv, hlf, take6, List.drop_zero, Int.cast_ofNat_Int, go_sem, ↓reduceIte, Nat.reduceEqDiff, Nat.reduceAdd, Nat.reduceMul, Nat.reduceLeDiff, Nat.reduceLT, Int.reduceLE, Int.reduceLT, reduceCtorEq]
  refine (p89 (mp f) hlf).go ?_
  rw [isM_mp hf]
  try simp only [hlf, hf.len, take6, List.drop_zero, Int.cast_ofNat_Int, go_sem, ↓reduceIte, Nat.reduceEqDiff, Nat.reduceAdd, Nat.reduceMul, Nat.reduceLeDiff, Nat.reduceLT, Int.reduceLE, Int.reduceLT, reduceCtorEq]
  refine (p92 f n 60 hf (by omega)).go ?_
  try simp only [hli, take6, List.drop_zero, Int.cast_ofNat_Int, go_sem, ↓reduceIte, Nat.reduceEqDiff, Nat.reduceAdd, Nat.reduceMul, Nat.reduceLeDiff, Nat.reduceLT, Int.reduceLE, Int.reduceLT, reduceCtorEq]
  refine (p91 _ n hi).go ?_
  try simp only [take6, List.drop_zero, Int.cast_ofNat_Int, go_sem, ↓reduceIte, Nat.reduceEqDiff, Nat.reduceAdd, Nat.reduceMul, Nat.reduceLeDiff, Nat.reduceLT, Int.reduceLE, Int.reduceLT, reduceCtorEq]
  refine KL_ind k23_b1.eq_1 (fun x : Nat => [(1, .fptr (ints (mp f)) 0), (4, .int .i64 (sb (itM f n 60))), (5, .ref 0 x 0 x), (6, .int .i64 x)]) (fun x => [.arr x 2 1 (ints (htl f n x))]) (fun x => x ≤ n) (fun x => n - x) [1, 4, 5, 6] 0 (by rfl) (by rfl) (Nat.zero_le _) fun x hx ih => ?_
  try simp only [hlf, hf.len, take6, List.drop_zero, Int.cast_ofNat_Int, go_sem, ↓reduceIte, Nat.reduceEqDiff, Nat.reduceAdd, Nat.reduceMul, Nat.reduceLeDiff, Nat.reduceLT, Int.reduceLE, Int.reduceLT, reduceCtorEq]
  refine ⟨fun h2 => ?_, fun h2 => ?_⟩
  · have hp : x < n := by omega
    refine KL_ind k23_b0.eq_1 (fun y : Nat => [(1, .fptr (ints (mp f)) 0), (4, .int .i64 (sb (itM f n 60))), (5, .ref 0 x 0 x), (6, .int .i64 x), (7, .int .i64 y), (8, .int .i64 (it f y x))]) (fun _ => [.arr x 2 1 (ints (htl f n x))]) (fun y => y ≤ 60 ∧ ∀ j, j < y → cyc f n (it f j x) = false) (fun y => 60 - y) [1, 4, 5, 6, 7, 8] 0 (by rfl) (by rfl) ⟨Nat.zero_le _, fun j h => by omega⟩ fun y ⟨hy, hno⟩ ihy => ?_
    have hq := it_lt hf hp y
    have ht : (sb (itM f n 60)).testBit (it f y x) = cyc f n (it f y x) := by
      rw [sb_test]
      cases hc : cyc f n (it f y x) with
      | true => exact decide_eq_true ((cyc_image hf hq).1 hc)
      | false => exact decide_eq_false fun h => by rw [(cyc_image hf hq).2 h] at hc; cases hc
    try simp only [hlf, aConv_u64 (show it f y x ≤ 61 by omega), aBin_shr (show it f y x ≤ 63 by omega), aBin_and1 (shr_le hb), bit_zero, ht, take6, List.drop_zero, Int.cast_ofNat_Int, go_sem, ↓reduceIte, Nat.reduceEqDiff, Nat.reduceAdd, Nat.reduceMul, Nat.reduceLeDiff, Nat.reduceLT, Int.reduceLE, Int.reduceLT, reduceCtorEq]
    refine ⟨fun h3 => ?_, fun h3 => ?_⟩
    · have hx2 : y + 1 < n := by
        refine Decidable.byContradiction fun hn => ?_
        have := cyc_late hf hp (k := y) (by omega)
        rw [this] at h3; cases h3
      repeat' (first | refine And.intro ?_ ?_ | intro _)
      all_goals (try omega)
      refine ihy (y + 1) ⟨by omega, fun j hj => ?_⟩ (by omega) _ _ (by rfl) rfl
      by_cases e : j = y
      · subst e; exact h3
      · exact hno j (by omega)
    · have e := hgt_eq hy (by simpa using h3) hno
      have hl := htl_length f n x
      try simp only [hl, take6, List.drop_zero, Int.cast_ofNat_Int, go_sem, ↓reduceIte, Nat.reduceEqDiff, Nat.reduceAdd, Nat.reduceMul, Nat.reduceLeDiff, Nat.reduceLT, Int.reduceLE, Int.reduceLT, reduceCtorEq]
      repeat' (first | refine And.intro ?_ ?_ | intro _)
      all_goals (try omega)
      refine ih (x + 1) (by omega) (by omega) _ _ (by rfl) ?_
      rw [List.take_of_length_le (by simp), ← e, htl_succ]
  · obtain rfl : x = n := by omega
    refine Kv.Fin.now ⟨?_, ?_⟩ <;> simp
def bsl (f : List Nat) (n x : Nat) : List Int := (List.range x).map fun p => (mino f (it f (hgt f n p) p) : Int)
@[simp] theorem bsl_length (f : List Nat) (n x : Nat) : (bsl f n x).length = x := by simp [bsl]
theorem bsl_succ (f : List Nat) (n x : Nat) : bsl f n x ++ [(mino f (it f (hgt f n x) x) : Int)] = bsl f n (x + 1) := by simp [bsl, List.range_succ]
theorem hgt_spec {f : List Nat} {n p : Nat} (hf : Ok f n) (hp : p < n) : hgt f n p ≤ 60 ∧ cyc f n (it f (hgt f n p) p) = true := by
  have hlt : hgt f n p < (List.range 61).length := by
    rw [hgt, List.findIdx_lt_length]
    exact ⟨60, by simp, cyc_late hf hp (by have := hf.le; omega)⟩
  refine ⟨by simp at hlt; omega, ?_⟩
  have := List.findIdx_getElem (w := hlt)
  have e : (List.range 61)[hgt f n p]'hlt = hgt f n p := List.getElem_range _
  unfold hgt at e ⊢
  rw [e] at this
  exact this
theorem p20_in (f : List Nat) (n : Nat) (hf : Ok f n) : NewI Tryz.prog 20 [.agg (ints (mp f))] 2 (bsl f n n) 0 := by
  have hlf := hf.mp_len
  have h1 := hf.pos
  have h5 := hf.le
  refine NewI.mk (n - 1) [] [] ?_
  refine e20 (by simp) fun _ _ => ?_
  simp only [k20, argEnv, hlf, take6, List.drop_zero, Int.cast_ofNat_Int, go_sem, ↓reduceIte, Nat.reduceEqDiff, Nat.reduceAdd, Nat.reduceMul, Nat.reduceLeDiff, Nat.reduceLT, Int.reduceLE, Int.reduceLT, reduceCtorEq]
  refine (p85 (mp f) hlf).go ?_
  rw [isM_mp hf]
  try simp only [hlf, hf.len, take6, List.drop_zero, Int.cast_ofNat_Int, go_sem, ↓reduceIte, Nat.reduceEqDiff, Nat.reduceAdd, Nat.reduceMul, Nat.reduceLeDiff, Nat.reduceLT, Int.reduceLE, Int.reduceLT, reduceCtorEq]
  refine KL_ind k20_b0.eq_1 (fun x : Nat => [(1, .fptr (ints (mp f)) 0), (4, nref 0 x), (12, .int .i64 n), (13, .int .i64 x)]) (fun x => nhp [.arr (x - 1) 2 1 (ints (bsl f n x))] x) (fun x => x ≤ n) (fun x => n - x) [1, 4, 12, 13] 0 (by rfl) (by rfl) (Nat.zero_le _) fun x hx ih => ?_
  try simp only [hlf, take6, List.drop_zero, Int.cast_ofNat_Int, go_sem, ↓reduceIte, Nat.reduceEqDiff, Nat.reduceAdd, Nat.reduceMul, Nat.reduceLeDiff, Nat.reduceLT, Int.reduceLE, Int.reduceLT, reduceCtorEq]
  refine ⟨fun h2 => ?_, fun h2 => ?_⟩
  · have hp : x < n := by omega
    obtain ⟨hh, hc⟩ := hgt_spec hf hp
    refine (p86 f n x hf (by omega)).go ?_
    try simp only [hlf, take6, List.drop_zero, Int.cast_ofNat_Int, go_sem, ↓reduceIte, Nat.reduceEqDiff, Nat.reduceAdd, Nat.reduceMul, Nat.reduceLeDiff, Nat.reduceLT, Int.reduceLE, Int.reduceLT, reduceCtorEq]
    refine (p88 f n _ hf (it_lt hf hp _) hc).go fun v s ⟨⟨m, hm, hr, hv⟩, hs⟩ => ?_
    subst hv; subst hs
    rw [Still.rn]
    try simp only [take6, List.drop_zero, Int.cast_ofNat_Int, go_sem, ↓reduceIte, Nat.reduceEqDiff, Nat.reduceAdd, Nat.reduceMul, Nat.reduceLeDiff, Nat.reduceLT, Int.reduceLE, Int.reduceLT, reduceCtorEq]
    refine (p87 _ (by simp) (by simp; omega)).go ?_
    have e : mnl (its f (it f (hgt f n x) x) (m + 1)) ((its f (it f (hgt f n x) x) (m + 1)).length - 1) = (mino f (it f (hgt f n x) x) : Int) := by
      rw [its_length, mnl_its f _ _ _ (by omega), Nat.add_sub_cancel, mino_eq hf hc (lo_round hr)]
    rw [e]
    rcases x with _ | x
    · try simp only [take6, List.drop_zero, Int.cast_ofNat_Int, go_sem, ↓reduceIte, Nat.reduceEqDiff, Nat.reduceAdd, Nat.reduceMul, Nat.reduceLeDiff, Nat.reduceLT, Int.reduceLE, Int.reduceLT, reduceCtorEq]
      repeat' (first | refine And.intro ?_ ?_ | intro _)
      all_goals (try omega)
      exact ih 1 (by omega) (by omega) _ _ (by rfl) (by rfl)
    · have hl := bsl_length f n (x + 1)
      try simp only [hl, take6, List.drop_zero, Int.cast_ofNat_Int, go_sem, ↓reduceIte, Nat.reduceEqDiff, Nat.reduceAdd, Nat.reduceMul, Nat.reduceLeDiff, Nat.reduceLT, Int.reduceLE, Int.reduceLT, reduceCtorEq]
      repeat' (first | refine And.intro ?_ ?_ | intro _)
      all_goals (try omega)
      refine ih (x + 1 + 1) (by omega) (by omega) _ _ (by rfl) ?_
      rw [List.take_of_length_le (by simp), bsl_succ]
      rfl
  · obtain rfl : x = n := by omega
    rw [nref_pos (by omega), nhp_pos (by omega)]
    refine Kv.Fin.now ⟨?_, ?_⟩ <;> simp
theorem lo_60 {f : List Nat} {n p : Nat} (hf : Ok f n) (hp : p < n) : ∀ m, it f (m + 1) (it f 60 p) = it f 60 p → lo f (it f 60 p) m = mino f (it f (hgt f n p) p) := fun m hm => by
  obtain ⟨hh, hc⟩ := hgt_spec hf hp
  obtain ⟨r, hr⟩ : ∃ r, 60 = hgt f n p + r := ⟨60 - hgt f n p, by omega⟩
  have h1 := lo_round hm
  have e : it f 60 p = it f r (it f (hgt f n p) p) := by rw [← it_add, ← hr]
  rw [e] at h1 ⊢
  exact mino_eq hf hc (h1.move hc)
theorem p90 (f : List Nat) (n : Nat) (hf : Ok f n) : ACall Tryz.prog 90 [.agg (ints (mp f))] [] (fun v s => v = .ref 0 n 0 n ∧ s = [.arr n 2 1 (ints (bsl f n n))]) := by
  have hlf := hf.mp_len
  have h1 := hf.pos
  have h5 := hf.le
  have hi := itM_ok hf 60
  have hli := hi.mp_len
  refine e90 (by simp) fun _ _ => ?_
  simp only [k90, argEnv, hlf, take6, List.drop_zero, Int.cast_ofNat_Int, go_sem, ↓reduceIte, Nat.reduceEqDiff, Nat.reduceAdd, Nat.reduceMul, Nat.reduceLeDiff, Nat.reduceLT, Int.reduceLE, Int.reduceLT, reduceCtorEq]
  refine KL_ind k90_b1.eq_1 (fun x : Nat => [(1, .fptr (ints (mp f)) 0), (3, .ref 0 x 0 x), (4, .int .i64 x)]) (fun x => [.arr x 2 1 (ints (bsl f n x))]) (fun x => x ≤ n) (fun x => n - x) [1, 3, 4] 0 (by rfl) (by rfl) (Nat.zero_le _) fun x hx ih => ?_
  try simp only [hlf, hf.len, take6, List.drop_zero, Int.cast_ofNat_Int, go_sem, ↓reduceIte, Nat.reduceEqDiff, Nat.reduceAdd, Nat.reduceMul, Nat.reduceLeDiff, Nat.reduceLT, Int.reduceLE, Int.reduceLT, reduceCtorEq]
  refine ⟨fun h2 => ?_, fun h2 => ?_⟩
  · have hp : x < n := by omega
    refine (p92 f n 60 hf (by omega)).go ?_
    have hg : (List.take 5 (List.drop 1 (mp (itM f n 60)))).getD x 0 = (it f 60 x : Int) := by
      have : (List.take 5 (List.drop 1 (mp (itM f n 60)))).getD x 0 = (mp (itM f n 60)).getD (x + 1) 0 := by
        simp [List.getD_eq_getElem?_getD, List.getElem?_take, show x < 5 by omega, Nat.add_comm]
      rw [this, mp_get, itM_get hp]
    have hl5 : (List.take 5 (List.drop 1 (mp (itM f n 60)))).length = 5 := by simp [hli]
    have hq := it_lt hf hp 60
    have hcy : cyc f n (it f 60 x) = true := cyc_late hf hp (by omega)
    try simp only [hli, hl5, hg, hlf, take6, List.drop_zero, Int.cast_ofNat_Int, go_sem, ↓reduceIte, Nat.reduceEqDiff, Nat.reduceAdd, Nat.reduceMul, Nat.reduceLeDiff, Nat.reduceLT, Int.reduceLE, Int.reduceLT, reduceCtorEq]
    refine ⟨by omega, by omega, fun _ => ⟨by omega, by omega, fun _ => ?_⟩⟩
    refine KL_ind k90_b0.eq_1 (fun y : Nat => [(1, .fptr (ints (mp f)) 0), (3, .ref 0 x 0 x), (4, .int .i64 x), (5, .int .i64 (it f 60 x)), (6, .int .i64 (lo f (it f 60 x) y)), (7, .int .i64 (it f (y + 1) (it f 60 x)))]) (fun _ => [.arr x 2 1 (ints (bsl f n x))]) (fun y => y ≤ 59) (fun y => 60 - y) [1, 3, 4, 5, 6, 7] 0 (by rfl) (by rfl) (Nat.zero_le _) fun y hy ihy => ?_
    have hq2 := it_lt hf hq (y + 1)
    try simp only [hlf, take6, List.drop_zero, Int.cast_ofNat_Int, go_sem, ↓reduceIte, Nat.reduceEqDiff, Nat.reduceAdd, Nat.reduceMul, Nat.reduceLeDiff, Nat.reduceLT, Int.reduceLE, Int.reduceLT, reduceCtorEq]
    refine ⟨fun h3 => ?_, fun h3 => ?_⟩
    · have hy2 : y < 59 := by
        refine Decidable.byContradiction fun hn => h3 ?_
        obtain rfl : y = 59 := by omega
        rw [cyc_60 hf hcy]
      have em : min (lo f (it f 60 x) y : Int) (it f (y + 1) (it f 60 x) : Int) = ((lo f (it f 60 x) (y + 1) : Nat) : Int) := by
        simp only [lo]; omega
      rw [em]
      repeat' (first | refine And.intro ?_ ?_ | intro _)
      all_goals (try omega)
      exact ihy (y + 1) (by omega) (by omega) _ _ (by rfl) rfl
    · have e := lo_60 hf hp y (by omega)
      rw [e]
      have hl := bsl_length f n x
      try simp only [hl, take6, List.drop_zero, Int.cast_ofNat_Int, go_sem, ↓reduceIte, Nat.reduceEqDiff, Nat.reduceAdd, Nat.reduceMul, Nat.reduceLeDiff, Nat.reduceLT, Int.reduceLE, Int.reduceLT, reduceCtorEq]
      repeat' (first | refine And.intro ?_ ?_ | intro _)
      all_goals (try omega)
      refine ih (x + 1) (by omega) (by omega) _ _ (by rfl) ?_
      rw [List.take_of_length_le (by simp), bsl_succ]
  · obtain rfl : x = n := by omega
    exact Kv.Fin.now ⟨rfl, rfl⟩
theorem p21_in (f : List Nat) (n : Nat) (hf : Ok f n) : NewI Tryz.prog 21 [.agg (ints (mp f))] 2 (bsl f n n) 0 := by
  have hlf := hf.mp_len
  refine NewI.mk n [] [] ?_
  refine e21 (by simp) fun _ _ => ?_
  simp only [k21, argEnv, hlf, take6, List.drop_zero, Int.cast_ofNat_Int, go_sem, ↓reduceIte, Nat.reduceEqDiff, Nat.reduceAdd, Nat.reduceMul, Nat.reduceLeDiff, Nat.reduceLT, Int.reduceLE, Int.reduceLT, reduceCtorEq]
  refine (p89 (mp f) hlf).go ?_
  rw [isM_mp hf]
  try simp only [hlf, hf.len, take6, List.drop_zero, Int.cast_ofNat_Int, go_sem, ↓reduceIte, Nat.reduceEqDiff, Nat.reduceAdd, Nat.reduceMul, Nat.reduceLeDiff, Nat.reduceLT, Int.reduceLE, Int.reduceLT, reduceCtorEq]
  refine (p90 f n hf).go fun v s ⟨hv, hs⟩ => ?_
  subst hv; subst hs
  try simp only [ren_ref, take6, List.drop_zero, Int.cast_ofNat_Int, go_sem, ↓reduceIte, Nat.reduceEqDiff, Nat.reduceAdd, Nat.reduceMul, Nat.reduceLeDiff, Nat.reduceLT, Int.reduceLE, Int.reduceLT, reduceCtorEq]
  refine Kv.Fin.now ⟨?_, ?_⟩ <;> simp
theorem p22_out (m : List Int) (h : m.length = 6) (hm : isM m = false) : Pure Tryz.prog 22 [.agg (ints m)] (.tup [.nils, .int .i64 1]) := by
  refine e22 (by simp) fun _ _ => ?_
  simp only [k22, argEnv, h, take6, List.drop_zero, Int.cast_ofNat_Int, go_sem, ↓reduceIte, Nat.reduceEqDiff, Nat.reduceAdd, Nat.reduceMul, Nat.reduceLeDiff, Nat.reduceLT, Int.reduceLE, Int.reduceLT, reduceCtorEq]
  refine (p85 m h).go ?_
  rw [hm]
  try simp only [take6, List.drop_zero, Int.cast_ofNat_Int, go_sem, ↓reduceIte, Nat.reduceEqDiff, Nat.reduceAdd, Nat.reduceMul, Nat.reduceLeDiff, Nat.reduceLT, Int.reduceLE, Int.reduceLT, reduceCtorEq]
  exact Kv.Fin.still ⟨rfl, rfl⟩
theorem p23_out (m : List Int) (h : m.length = 6) (hm : isM m = false) : Pure Tryz.prog 23 [.agg (ints m)] (.tup [.nils, .int .i64 1]) := by
  refine e23 (by simp) fun _ _ => ?_
  simp only [k23, argEnv, h, take6, List.drop_zero, Int.cast_ofNat_Int, go_sem, ↓reduceIte, Nat.reduceEqDiff, Nat.reduceAdd, Nat.reduceMul, Nat.reduceLeDiff, Nat.reduceLT, Int.reduceLE, Int.reduceLT, reduceCtorEq]
  refine (p89 m h).go ?_
  rw [hm]
  try simp only [take6, List.drop_zero, Int.cast_ofNat_Int, go_sem, ↓reduceIte, Nat.reduceEqDiff, Nat.reduceAdd, Nat.reduceMul, Nat.reduceLeDiff, Nat.reduceLT, Int.reduceLE, Int.reduceLT, reduceCtorEq]
  exact Kv.Fin.still ⟨rfl, rfl⟩
theorem p20_out (m : List Int) (h : m.length = 6) (hm : isM m = false) : Pure Tryz.prog 20 [.agg (ints m)] (.tup [.nils, .int .i64 1]) := by
  refine e20 (by simp) fun _ _ => ?_
  simp only [k20, argEnv, h, take6, List.drop_zero, Int.cast_ofNat_Int, go_sem, ↓reduceIte, Nat.reduceEqDiff, Nat.reduceAdd, Nat.reduceMul, Nat.reduceLeDiff, Nat.reduceLT, Int.reduceLE, Int.reduceLT, reduceCtorEq]
  refine (p85 m h).go ?_
  rw [hm]
  try simp only [take6, List.drop_zero, Int.cast_ofNat_Int, go_sem, ↓reduceIte, Nat.reduceEqDiff, Nat.reduceAdd, Nat.reduceMul, Nat.reduceLeDiff, Nat.reduceLT, Int.reduceLE, Int.reduceLT, reduceCtorEq]
  exact Kv.Fin.still ⟨rfl, rfl⟩
theorem p21_out (m : List Int) (h : m.length = 6) (hm : isM m = false) : Pure Tryz.prog 21 [.agg (ints m)] (.tup [.nils, .int .i64 1]) := by
  refine e21 (by simp) fun _ _ => ?_
  simp only [k21, argEnv, h, take6, List.drop_zero, Int.cast_ofNat_Int, go_sem, ↓reduceIte, Nat.reduceEqDiff, Nat.reduceAdd, Nat.reduceMul, Nat.reduceLeDiff, Nat.reduceLT, Int.reduceLE, Int.reduceLT, reduceCtorEq]
  refine (p89 m h).go ?_
  rw [hm]
  try simp only [take6, List.drop_zero, Int.cast_ofNat_Int, go_sem, ↓reduceIte, Nat.reduceEqDiff, Nat.reduceAdd, Nat.reduceMul, Nat.reduceLeDiff, Nat.reduceLT, Int.reduceLE, Int.reduceLT, reduceCtorEq]
  exact Kv.Fin.still ⟨rfl, rfl⟩
end Go.Proofs.YtpfapiiinkkcgaaGreat
