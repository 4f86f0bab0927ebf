/- The compact code of functions of the seat, and how their calls are entered: printed by this session's own program. -/
import Derived.Test.YtkdkdkkimieieaaCb
namespace Go.Proofs.Ytkdkdkkimieieaa
open Go.Kv
set_option maxRecDepth 100000
/- spec.HeightsOf -/
/- live [1, 4, 5, 6, 7, 8] -/
def k37_b0 : KC := (.seq (.seq (.ops [⟨(some 23), none, .mv (.t 4)⟩, ⟨(some 24), none, .mv (.t 8)⟩, ⟨(some 25), none, .conv .u64 (.t 24)⟩, ⟨(some 26), none, .bin .shr (.t 23) (.t 25)⟩, ⟨(some 27), none, .bin .and (.t 26) (.c (.int .i64 1))⟩, ⟨(some 28), none, .bin .eql (.t 27) (.c (.int .i64 0))⟩])
  (.cond (.t 28) .skip (.exit 2)))
  (.seq (.block 3 (.ops [⟨(some 33), none, .mv (.t 7)⟩, ⟨(some 34), none, .bin .add (.t 33) (.c (.int .i64 1))⟩, ⟨(some 7), none, .mv (.t 34)⟩]))
  (.ops [⟨(some 29), none, .mv (.t 8)⟩, ⟨(some 30), none, .fieldA 1 (.t 1)⟩, ⟨(some 31), none, .idxA 5 1 (.t 30) (.t 29)⟩, ⟨(some 32), none, .load false 1 (.t 31)⟩, ⟨(some 8), none, .mv (.t 32)⟩])))
/- live [1, 4, 5, 6] -/
def k37_b1 : KC := (.seq (.seq (.ops [⟨(some 16), none, .mv (.t 6)⟩, ⟨(some 17), none, .fieldA 0 (.t 1)⟩, ⟨(some 18), none, .load false 1 (.t 17)⟩, ⟨(some 19), none, .bin .lss (.t 16) (.t 18)⟩])
  (.cond (.t 19) .skip (.exit 0)))
  (.seq (.block 1 (.seq (.ops [⟨(some 7), none, .mv (.c (.int .i64 0))⟩])
  (.seq (.seq (.ops [⟨(some 22), none, .mv (.t 6)⟩, ⟨(some 8), none, .mv (.t 22)⟩])
  (.block 2 (.loop k37_b0)))
  (.ops [⟨(some 35), none, .mv (.t 5)⟩, ⟨(some 36), none, .mv (.t 7)⟩, ⟨(some 37), none, .bsl true 2 1 [(.t 36)]⟩, ⟨(some 38), none, .app (.t 35) (.t 37) 2 1⟩, ⟨(some 5), none, .mv (.t 38)⟩]))))
  (.ops [⟨(some 20), none, .mv (.t 6)⟩, ⟨(some 21), none, .bin .add (.t 20) (.c (.int .i64 1))⟩, ⟨(some 6), none, .mv (.t 21)⟩])))
def k37 : KC := (.seq (.ops [⟨(some 1), none, .box true (.t 0)⟩, ⟨(some 2), none, .mv (.c (.nils))⟩, ⟨(some 3), none, .mv (.c (.int .i64 0))⟩])
  (.seq (.seq (.ops [⟨(some 9), none, .load true 6 (.t 1)⟩, ⟨(some 10), none, .call (.c (.fn (.func 64) [] [])) [(.t 9)]⟩, ⟨(some 11), none, .not (.t 10)⟩])
  (.cond (.t 11) (.seq (.ops [⟨(some 2), none, .mv (.c (.nils))⟩, ⟨(some 3), none, .mv (.c (.int .i64 1))⟩])
  .ret) .skip))
  (.seq (.ops [⟨(some 12), none, .load true 6 (.t 1)⟩, ⟨(some 13), none, .call (.c (.fn (.func 80) [] [])) [(.t 12), (.c (.int .i64 60))]⟩, ⟨(some 14), none, .call (.c (.fn (.func 79) [] [])) [(.t 13)]⟩, ⟨(some 15), none, .bsl false 2 1 []⟩, ⟨(some 4), none, .mv (.t 14)⟩, ⟨(some 5), none, .mv (.t 15)⟩])
  (.seq (.seq (.ops [⟨(some 6), none, .mv (.c (.int .i64 0))⟩])
  (.block 0 (.loop k37_b1)))
  (.seq (.ops [⟨(some 39), none, .mv (.t 5)⟩, ⟨(some 2), none, .mv (.t 39)⟩, ⟨(some 3), none, .mv (.c (.int .i64 0))⟩])
  .ret)))))
theorem e37 {args : List PV} {σ : Heap} {K : PV → Heap → Prop} (hl : args.length ≤ 40) (h : Wf σ → (∀ a ∈ args, PV.upto σ.length a) → vc (mkCfg Try.prog mixed [1, 37] 40 σ.length) k37 (FinK σ.length [.t 2, .t 3] K) (argEnv 0 args) σ) : ACall Try.prog 37 args σ K :=
  ACall_enter (C := mkCfg Try.prog mixed [1, 37] 40 σ.length) (c := Try.f37.body.getD .skip) Try.func37 (by kernel_rfl) (by kernel_rfl) (by kernel_rfl) rfl hl (by kernel_rfl) (by kernel_rfl) h
/- impl.HeightsOf -/
/- live [1, 4, 12, 13] -/
def k38_b0 : KC := (.seq (.ops [⟨(some 14), none, .bin .lss (.t 13) (.t 12)⟩])
  (.seq (.cond (.t 14) .skip (.exit 0))
  (.seq (.block 1 (.seq (.ops [⟨(some 15), none, .mv (.t 13)⟩, ⟨(some 5), none, .mv (.t 15)⟩])
  (.seq (.ops [⟨(some 17), none, .load true 6 (.t 1)⟩, ⟨(some 18), none, .mv (.t 5)⟩, ⟨(some 19), none, .call (.c (.fn (.func 81) [] [])) [(.t 17), (.t 18)]⟩, ⟨(some 16), none, .mv (.t 19)⟩, ⟨(some 20), none, .extr 0 (.t 16)⟩, ⟨(some 21), none, .extr 1 (.t 16)⟩, ⟨(some 6), none, .mv (.t 20)⟩, ⟨(some 7), none, .mv (.t 21)⟩])
  (.ops [⟨(some 22), none, .mv (.t 4)⟩, ⟨(some 23), none, .mv (.t 7)⟩, ⟨(some 24), none, .bsl true 2 1 [(.t 23)]⟩, ⟨(some 25), none, .app (.t 22) (.t 24) 2 1⟩, ⟨(some 4), none, .mv (.t 25)⟩]))))
  (.ops [⟨(some 26), none, .bin .add (.t 13) (.c (.int .i64 1))⟩, ⟨(some 13), none, .mv (.t 26)⟩]))))
def k38 : KC := (.seq (.ops [⟨(some 1), none, .box true (.t 0)⟩, ⟨(some 2), none, .mv (.c (.nils))⟩, ⟨(some 3), none, .mv (.c (.int .i64 0))⟩])
  (.seq (.seq (.ops [⟨(some 8), none, .load true 6 (.t 1)⟩, ⟨(some 9), none, .call (.c (.fn (.func 68) [] [])) [(.t 8)]⟩, ⟨(some 10), none, .not (.t 9)⟩])
  (.cond (.t 10) (.seq (.ops [⟨(some 2), none, .mv (.c (.nils))⟩, ⟨(some 3), none, .mv (.c (.int .i64 1))⟩])
  .ret) .skip))
  (.seq (.ops [⟨(some 4), none, .mv (.c (.nils))⟩])
  (.seq (.seq (.ops [⟨(some 11), none, .fieldA 0 (.t 1)⟩, ⟨(some 12), none, .load false 1 (.t 11)⟩, ⟨(some 13), none, .mv (.c (.int .i64 0))⟩])
  (.block 0 (.loop k38_b0)))
  (.seq (.ops [⟨(some 27), none, .mv (.t 4)⟩, ⟨(some 2), none, .mv (.t 27)⟩, ⟨(some 3), none, .mv (.c (.int .i64 0))⟩])
  .ret)))))
theorem e38 {args : List PV} {σ : Heap} {K : PV → Heap → Prop} (hl : args.length ≤ 28) (h : Wf σ → (∀ a ∈ args, PV.upto σ.length a) → vc (mkCfg Try.prog mixed [1, 24] 28 σ.length) k38 (FinK σ.length [.t 2, .t 3] K) (argEnv 0 args) σ) : ACall Try.prog 38 args σ K :=
  ACall_enter (C := mkCfg Try.prog mixed [1, 24] 28 σ.length) (c := Try.f38.body.getD .skip) Try.func38 (by kernel_rfl) (by kernel_rfl) (by kernel_rfl) rfl hl (by kernel_rfl) (by kernel_rfl) h
/- spec.BasinsOf -/
def k39 : KC := (.seq (.ops [⟨(some 1), none, .box true (.t 0)⟩, ⟨(some 2), none, .mv (.c (.nils))⟩, ⟨(some 3), none, .mv (.c (.int .i64 0))⟩])
  (.seq (.seq (.ops [⟨(some 4), none, .load true 6 (.t 1)⟩, ⟨(some 5), none, .call (.c (.fn (.func 64) [] [])) [(.t 4)]⟩, ⟨(some 6), none, .not (.t 5)⟩])
  (.cond (.t 6) (.seq (.ops [⟨(some 2), none, .mv (.c (.nils))⟩, ⟨(some 3), none, .mv (.c (.int .i64 1))⟩])
  .ret) .skip))
  (.seq (.ops [⟨(some 7), none, .load true 6 (.t 1)⟩, ⟨(some 8), none, .call (.c (.fn (.func 82) [] [])) [(.t 7)]⟩, ⟨(some 2), none, .mv (.t 8)⟩, ⟨(some 3), none, .mv (.c (.int .i64 0))⟩])
  .ret)))
theorem e39 {args : List PV} {σ : Heap} {K : PV → Heap → Prop} (hl : args.length ≤ 9) (h : Wf σ → (∀ a ∈ args, PV.upto σ.length a) → vc (mkCfg Try.prog mixed [1] 9 σ.length) k39 (FinK σ.length [.t 2, .t 3] K) (argEnv 0 args) σ) : ACall Try.prog 39 args σ K :=
  ACall_enter (C := mkCfg Try.prog mixed [1] 9 σ.length) (c := Try.f39.body.getD .skip) Try.func39 (by kernel_rfl) (by kernel_rfl) (by kernel_rfl) rfl hl (by kernel_rfl) (by kernel_rfl) h
/- spec.l09Basins -/
/- live [1, 3, 4, 5, 6, 7] -/
def k82_b0 : KC := (.seq (.seq (.ops [⟨(some 25), none, .mv (.t 7)⟩, ⟨(some 26), none, .mv (.t 5)⟩, ⟨(some 27), none, .bin .neq (.t 25) (.t 26)⟩])
  (.cond (.t 27) .skip (.exit 2)))
  (.seq (.block 3 (.ops [⟨(some 32), none, .mv (.t 6)⟩, ⟨(some 33), none, .mv (.t 7)⟩, ⟨(some 34), none, .mnmx false (.t 32) [(.t 33)]⟩, ⟨(some 6), none, .mv (.t 34)⟩]))
  (.ops [⟨(some 28), none, .mv (.t 7)⟩, ⟨(some 29), none, .fieldA 1 (.t 1)⟩, ⟨(some 30), none, .idxA 5 1 (.t 29) (.t 28)⟩, ⟨(some 31), none, .load false 1 (.t 30)⟩, ⟨(some 7), none, .mv (.t 31)⟩])))
/- live [1, 3, 4] -/
def k82_b1 : KC := (.seq (.seq (.ops [⟨(some 9), none, .mv (.t 4)⟩, ⟨(some 10), none, .fieldA 0 (.t 1)⟩, ⟨(some 11), none, .load false 1 (.t 10)⟩, ⟨(some 12), none, .bin .lss (.t 9) (.t 11)⟩])
  (.cond (.t 12) .skip (.exit 0)))
  (.seq (.block 1 (.seq (.ops [⟨(some 15), none, .load true 6 (.t 1)⟩, ⟨(some 16), none, .call (.c (.fn (.func 80) [] [])) [(.t 15), (.c (.int .i64 60))]⟩, ⟨(some 17), none, .fieldV true 5 1 (.t 16)⟩, ⟨(some 18), none, .mv (.t 4)⟩, ⟨(some 19), none, .idxV 5 1 false (.t 17) (.t 18)⟩, ⟨(some 5), none, .mv (.t 19)⟩])
  (.seq (.ops [⟨(some 20), none, .mv (.t 5)⟩, ⟨(some 6), none, .mv (.t 20)⟩])
  (.seq (.seq (.ops [⟨(some 21), none, .mv (.t 5)⟩, ⟨(some 22), none, .fieldA 1 (.t 1)⟩, ⟨(some 23), none, .idxA 5 1 (.t 22) (.t 21)⟩, ⟨(some 24), none, .load false 1 (.t 23)⟩, ⟨(some 7), none, .mv (.t 24)⟩])
  (.block 2 (.loop k82_b0)))
  (.ops [⟨(some 35), none, .mv (.t 3)⟩, ⟨(some 36), none, .mv (.t 6)⟩, ⟨(some 37), none, .bsl true 2 1 [(.t 36)]⟩, ⟨(some 38), none, .app (.t 35) (.t 37) 2 1⟩, ⟨(some 3), none, .mv (.t 38)⟩])))))
  (.ops [⟨(some 13), none, .mv (.t 4)⟩, ⟨(some 14), none, .bin .add (.t 13) (.c (.int .i64 1))⟩, ⟨(some 4), none, .mv (.t 14)⟩])))
def k82 : KC := (.seq (.ops [⟨(some 1), none, .box true (.t 0)⟩, ⟨(some 2), none, .mv (.c (.nils))⟩])
  (.seq (.ops [⟨(some 8), none, .bsl false 2 1 []⟩, ⟨(some 3), none, .mv (.t 8)⟩])
  (.seq (.seq (.ops [⟨(some 4), none, .mv (.c (.int .i64 0))⟩])
  (.block 0 (.loop k82_b1)))
  (.seq (.ops [⟨(some 39), none, .mv (.t 3)⟩, ⟨(some 2), none, .mv (.t 39)⟩])
  .ret))))
theorem e82 {args : List PV} {σ : Heap} {K : PV → Heap → Prop} (hl : args.length ≤ 40) (h : Wf σ → (∀ a ∈ args, PV.upto σ.length a) → vc (mkCfg Try.prog mixed [1, 37] 40 σ.length) k82 (FinK σ.length [.t 2] K) (argEnv 0 args) σ) : ACall Try.prog 82 args σ K :=
  ACall_enter (C := mkCfg Try.prog mixed [1, 37] 40 σ.length) (c := Try.f82.body.getD .skip) Try.func82 (by kernel_rfl) (by kernel_rfl) (by kernel_rfl) rfl hl (by kernel_rfl) (by kernel_rfl) h
/- impl.BasinsOf -/
/- live [1, 4, 12, 13] -/
def k40_b0 : KC := (.seq (.ops [⟨(some 14), none, .bin .lss (.t 13) (.t 12)⟩])
  (.seq (.cond (.t 14) .skip (.exit 0))
  (.seq (.block 1 (.seq (.ops [⟨(some 15), none, .mv (.t 13)⟩, ⟨(some 5), none, .mv (.t 15)⟩])
  (.seq (.ops [⟨(some 17), none, .load true 6 (.t 1)⟩, ⟨(some 18), none, .mv (.t 5)⟩, ⟨(some 19), none, .call (.c (.fn (.func 81) [] [])) [(.t 17), (.t 18)]⟩, ⟨(some 16), none, .mv (.t 19)⟩, ⟨(some 20), none, .extr 0 (.t 16)⟩, ⟨(some 21), none, .extr 1 (.t 16)⟩, ⟨(some 6), none, .mv (.t 20)⟩, ⟨(some 7), none, .mv (.t 21)⟩])
  (.ops [⟨(some 22), none, .mv (.t 4)⟩, ⟨(some 23), none, .load true 6 (.t 1)⟩, ⟨(some 24), none, .mv (.t 6)⟩, ⟨(some 25), none, .call (.c (.fn (.func 84) [] [])) [(.t 23), (.t 24)]⟩, ⟨(some 26), none, .call (.c (.fn (.func 83) [] [])) [(.t 25)]⟩, ⟨(some 27), none, .bsl true 2 1 [(.t 26)]⟩, ⟨(some 28), none, .app (.t 22) (.t 27) 2 1⟩, ⟨(some 4), none, .mv (.t 28)⟩]))))
  (.ops [⟨(some 29), none, .bin .add (.t 13) (.c (.int .i64 1))⟩, ⟨(some 13), none, .mv (.t 29)⟩]))))
def k40 : KC := (.seq (.ops [⟨(some 1), none, .box true (.t 0)⟩, ⟨(some 2), none, .mv (.c (.nils))⟩, ⟨(some 3), none, .mv (.c (.int .i64 0))⟩])
  (.seq (.seq (.ops [⟨(some 8), none, .load true 6 (.t 1)⟩, ⟨(some 9), none, .call (.c (.fn (.func 68) [] [])) [(.t 8)]⟩, ⟨(some 10), none, .not (.t 9)⟩])
  (.cond (.t 10) (.seq (.ops [⟨(some 2), none, .mv (.c (.nils))⟩, ⟨(some 3), none, .mv (.c (.int .i64 1))⟩])
  .ret) .skip))
  (.seq (.ops [⟨(some 4), none, .mv (.c (.nils))⟩])
  (.seq (.seq (.ops [⟨(some 11), none, .fieldA 0 (.t 1)⟩, ⟨(some 12), none, .load false 1 (.t 11)⟩, ⟨(some 13), none, .mv (.c (.int .i64 0))⟩])
  (.block 0 (.loop k40_b0)))
  (.seq (.ops [⟨(some 30), none, .mv (.t 4)⟩, ⟨(some 2), none, .mv (.t 30)⟩, ⟨(some 3), none, .mv (.c (.int .i64 0))⟩])
  .ret)))))
theorem e40 {args : List PV} {σ : Heap} {K : PV → Heap → Prop} (hl : args.length ≤ 31) (h : Wf σ → (∀ a ∈ args, PV.upto σ.length a) → vc (mkCfg Try.prog mixed [1, 27] 31 σ.length) k40 (FinK σ.length [.t 2, .t 3] K) (argEnv 0 args) σ) : ACall Try.prog 40 args σ K :=
  ACall_enter (C := mkCfg Try.prog mixed [1, 27] 31 σ.length) (c := Try.f40.body.getD .skip) Try.func40 (by kernel_rfl) (by kernel_rfl) (by kernel_rfl) rfl hl (by kernel_rfl) (by kernel_rfl) h
end Go.Proofs.Ytkdkdkkimieieaa
